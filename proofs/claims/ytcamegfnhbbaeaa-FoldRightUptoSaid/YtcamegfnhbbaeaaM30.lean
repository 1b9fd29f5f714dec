/- Merged: Layer 21, the reference: a statement under way; what stays beside a block. Layer 21, the reference: statements folded. PRINTED by wip/tool/mkrfs.py -/
import Derived.Test.YtcamegfnhbbaeaaM22
import Derived.Test.YtcamegfnhbbaeaaTreeY
import Derived.Test.YtcamegfnhbbaeaaTreeK0
import Derived.Test.YtcamegfnhbbaeaaRfX
namespace Go.Proofs.Ytcamegfnhbbaeaa
open Go.RowKit
set_option linter.unusedVariables false
set_option linter.unusedSimpArgs false

/-- a statement's cells -/
def stC (op : Int) (nm : ByteArray) (d : Ex) (A1 : Option Addr) (k1 : Nat) (e : Ex) (A2 : Option Addr) (k2 : Nat) (v14 v15 v16 v17 : Value) (ln : Int) : Array Value :=
  #[.int .i64 op, .string nm, .int .i64 d.op, .int .i64 d.n, .string d.name, .string d.field, .slice A1 d.sub.length k1, .int .i64 d.line, .int .i64 e.op, .int .i64 e.n, .string e.name, .string e.field, .slice A2 e.sub.length k2, .int .i64 e.line, v14, v15, v16, v17, .int .i64 ln]
section
variable {op ln : Int} {nm : ByteArray} {d e y : Ex} {A1 A2 A : Option Addr} {k1 k2 k : Nat} {v14 v15 v16 v17 v : Value}
theorem stC_one {q1 q2 q3 q4 : Option Addr} {n1 n2 n3 n4 c1 c2 c3 c4 : Nat} : (stC op nm d A1 k1 e A2 k2 (.slice q1 n1 c1) (.slice q2 n2 c2) (.slice q3 n3 c3) (.slice q4 n4 c4) ln).all (·.oneCell') = true := by
  simp [stC, Value.oneCell']
theorem stC_dst : setsFrom (stC op nm d A1 k1 e A2 k2 v14 v15 v16 v17 ln) 2 (exA y.op y.n y.name y.field A y.sub.length k y.line).toList = stC op nm y A k e A2 k2 v14 v15 v16 v17 ln := by
  simp [setsFrom, exA, stC]
theorem stC_src : setsFrom (stC op nm d A1 k1 e A2 k2 v14 v15 v16 v17 ln) 8 (exA y.op y.n y.name y.field A y.sub.length k y.line).toList = stC op nm d A1 k1 y A k v14 v15 v16 v17 ln := by
  simp [setsFrom, exA, stC]
theorem stC_14 : (stC op nm d A1 k1 e A2 k2 v14 v15 v16 v17 ln).setIfInBounds 14 v = stC op nm d A1 k1 e A2 k2 v v15 v16 v17 ln := rfl
theorem stC_17 : (stC op nm d A1 k1 e A2 k2 v14 v15 v16 v17 ln).setIfInBounds 17 v = stC op nm d A1 k1 e A2 k2 v14 v15 v16 v ln := rfl
theorem stC_rdst {w : World} {G : Nat} {T : TypeId} (h : w.heap[G]? = some (.cells (stC op nm d A1 k1 e A2 k2 v14 v15 v16 v17 ln) T)) : w.rangeAt G 2 (ExC d A1 k1) := fun j u hu => by
  have hj : j < 6 := (List.getElem?_eq_some_iff.1 hu).1
  refine heap_cell (2 + j) u h ?_
  rcases (show j = 0 ∨ j = 1 ∨ j = 2 ∨ j = 3 ∨ j = 4 ∨ j = 5 by omega) with rfl | rfl | rfl | rfl | rfl | rfl
  all_goals exact hu
theorem stC_rsrc {w : World} {G : Nat} {T : TypeId} (h : w.heap[G]? = some (.cells (stC op nm d A1 k1 e A2 k2 v14 v15 v16 v17 ln) T)) : w.rangeAt G 8 (ExC e A2 k2) := fun j u hu => by
  have hj : j < 6 := (List.getElem?_eq_some_iff.1 hu).1
  refine heap_cell (8 + j) u h ?_
  rcases (show j = 0 ∨ j = 1 ∨ j = 2 ∨ j = 3 ∨ j = 4 ∨ j = 5 by omega) with rfl | rfl | rfl | rfl | rfl | rfl
  all_goals exact hu
end
theorem stm_stC (s : Stm) (m : SM) : (StmC s m).toArray = stC s.op s.name s.dst m.ta m.tk s.src m.va m.vk (.slice m.ca s.conds.length m.ck) (.slice m.la s.labels.length m.lk) (.slice m.fa s.fields.length m.fk) (.slice m.ba s.blocks.length m.bk) s.line := rfl

/-- the blocks below N are as they were, but for G -/
structure Keep (N G : Nat) (a w : World) : Prop where
  size : N ≤ w.heap.size
  blk : ∀ b, b < N → b ≠ G → w.heap[b]? = a.heap[b]?
section
variable {N G : Nat} {a w w' : World}
theorem Keep.step (h : Keep N G a w) (hs : w.heap.size ≤ w'.heap.size) (hb : ∀ b, b < N → b ≠ G → w'.heap[b]? = w.heap[b]?) : Keep N G a w' := ⟨Nat.le_trans h.size hs, fun b h1 h2 => (hb b h1 h2).trans (h.blk b h1 h2)⟩
theorem Keep.below (h : Keep N G a w) (hb : Below w.heap.size w w') : Keep N G a w' := h.step hb.size fun b h1 _ => hb.block b (Nat.lt_of_lt_of_le h1 h.size)
theorem Keep.grown {e : TypeId} {size n : Nat} {v : Value} {xs : List Value} (h : Keep N G a w) (ho : w.ownsRow N e size v n xs) (hg : w.grownBy w' v.ownBlock) : Keep N G a w' :=
  h.step hg.size fun b h1 _ => hg.block b (Nat.lt_of_lt_of_le h1 h.size) fun he => by have := (ho.lt b he.symm).1; omega
theorem Keep.set (h : Keep N G a w) (k : Nat) (v : Value) : Keep N G a (w.setCell ⟨G, k, none⟩ v) := h.step (by simp) fun b _ h2 => heap_setCell_other _ _ _ _ h2
end
/-- a sign stands ahead of one part, in every expression of a statement -/
inductive NegS : Stm → Prop where
  | mk (s : Stm) (h1 : Neg1 s.dst) (h2 : Neg1 s.src) (h3 : ∀ x ∈ s.conds, Neg1 x) (h4 : ∀ bl ∈ s.blocks, ∀ t ∈ bl, NegS t) : NegS s
theorem NegS.parts {s : Stm} (h : NegS s) : Neg1 s.dst ∧ Neg1 s.src ∧ (∀ x ∈ s.conds, Neg1 x) ∧ ∀ bl ∈ s.blocks, ∀ t ∈ bl, NegS t := by
  cases h with
  | mk _ h1 h2 h3 h4 => exact ⟨h1, h2, h3, h4⟩
theorem FitE.neg {x : Ex} (h : FitE x) : Neg1 x := by
  induction h with
  | mk x h _ ih => exact .mk x (fun h6 => by have := h.subs; rw [h6] at this; exact this) ih
theorem NoneX.neg {x : Ex} (h : NoneX x) : Neg1 x := .mk x (fun h6 => by rw [h.op] at h6; cases h6) (fun y hy => by rw [h.sub] at hy; cases hy)
theorem FitS.neg {s : Stm} (h : FitS s) : NegS s := by
  induction h with
  | mk s h _ _ _ ih =>
    refine .mk s ?_ ?_ (fun x hx => (h.conds x hx).neg) ih
    · by_cases h1 : s.op = 1
      · exact (h.dst1 h1).2.neg
      · exact (h.dst0 h1).neg
    · by_cases h1 : s.op = 1 ∨ s.op = 3 ∨ s.op = 5 ∨ s.op = 6
      · exact (h.src1 h1).neg
      · exact (h.src0 h1).neg
theorem Built.setCell {α : Type} {Q : World → α → List Value → Prop} {T : TypeId} {size base : Nat} {p : Nat → Bool} (hQ : ∀ w w' y cs, Moves w w' → Q w y cs → Q w' y cs) {w : World} {ys : List α} {v : Value} (h : Built Q T size p w base ys v) {g : Nat} (hg : g < base) (hp : p g = false) (k : Nat) (u : Value) : Built Q T size p (w.setCell ⟨g, k, none⟩ u) base ys v := by
  obtain ⟨cs, h1, h2⟩ := h
  refine ⟨cs, owns_setCell h1 hg u, h2.mono fun y c hy => hQ _ _ _ _ (.onlyW (by simp) fun b _ h => ⟨h, ?_⟩) hy⟩
  have hb : b ≠ g := by
    rw [orFree_iff] at h
    rcases h with ⟨_, h⟩ | ⟨h, _⟩
    · intro e
      rw [e, hp] at h
      cases h
    · omega
  exact heap_setCell_other _ _ _ _ hb

end Go.Proofs.Ytcamegfnhbbaeaa

namespace Go.Proofs.Ytcamegfnhbbaeaa
open Go.RowKit
set_option linter.unusedVariables false
set_option linter.unusedSimpArgs false
attribute [local go_sem] ite_max ite_min vite_max vite_min ext_cell ext_frozen

set_option maxRecDepth 100000 in
set_option maxHeartbeats 16000000 in
theorem rstmts_at : ∀ (k : Nat) (xs : List Stm), SizeOf.sizeOf xs < k → (∀ s ∈ xs, NegS s) → ∀ (p : Nat → Bool) (w : World) (A : Option Addr) (cap : Nat), RowT (only w p) A xs cap → Calls Try.prog 12 #[.slice A xs.length cap] w fun e w' => StRes w.heap.size p (foldSs opF xs) e w' ∧ Below w.heap.size w w' := by
  intro k
  induction k with
  | zero => intro xs h; omega
  | succ k ih =>
    intro xs hsz hneg p w A cap hrow
    obtain ⟨H, hH⟩ : ∃ H, w.heap.size = H := ⟨_, rfl⟩
    have HIH := Lib.hid ih
    have HSZ := Lib.hid hsz
    have HNS := Lib.hid hneg
    have HR := Lib.hid hrow
    have hsl := hrow.1
    have hsc := hrow.2.1
    have hsb := hrow.2.2.1
    obtain ⟨m, hm⟩ : ∃ m, xs.length = m := ⟨_, rfl⟩
    rw [hm] at hsl hsb ⊢
    have HM := Lib.hid hm
    clear ih hrow hm hsz hneg
    rw [hH]
    have HH := Lib.hid hH
    have hHw : w.heap.size ≤ H := by omega
    have hHw2 : H ≤ w.heap.size := by omega
    clear hH
    go_enter Try.func12, Try.ntmps12
    go_wp2_with fail
    go_loopw [3, 4] (fun v u wr => ∃ (i : Nat) (vo : Value), vo = v ∧ i ≤ m ∧ u = .int .i64 i ∧ Hid (Built StmAt 63 19 p wr H (foldSs opF (xs.take i)) vo) ∧ Below w.heap.size w wr) (fun _ u _ => m - (intOf u).toNat)
    case atStart => exact ⟨0, _, rfl, by omega, rfl, Lib.hid (by rw [List.take_zero, foldSs]; exact Built.nil _), Below.refl _ _⟩
    case round =>
      obtain ⟨i, vo, rfl, hi, rfl, HBU, hbr⟩ := hrel
      have hbs := hbr.size
      by_cases hlt : i < m
      · obtain ⟨b, off, s, ms, rfl, hbl, hy, hsv⟩ := RowT.at (HR.out.move (Moves.onlyB hbr fun b hb hp => (oldP_iff.2 ⟨by omega, hp⟩ : oldP p H b = true))) (i := i) (by rw [HM.out]; exact hlt)
        have hi0 : (0 : Int) ≤ (i : Int) ∧ (i : Int) < (m : Int) := by omega
        have HY := Lib.hid hy
        have HSV := Lib.hid hsv
        have HNG := Lib.hid (HNS.out s (List.mem_of_getElem? hy))
        have HRG : Hid (wr.rangeAt b (off + i * 19) (StmC s ms)) := Lib.hid (fun j u hu => (only_cell (hsv.cell j u hu)).2)
        clear hy hsv
        go_upto_region 6 with (first | refine wpList_load_mid rfl 63 _ rfl b (off + i * 19) rfl (StmC s ms) _ HRG.out Try.underlying63 rfl stmt_size ?_ | refine wpList_store_newTo rfl 63 _ _ rfl rfl wr _ (StmC s ms).toArray rfl rfl rfl stmt_size rfl (stmC_one s ms) ?_)
        refine wp_name fun W2 hW2 => ?_
        obtain ⟨G, hG⟩ : ∃ G, G = wr.heap.size := ⟨_, rfl⟩
        rw [← hG]
        obtain ⟨wo, hwo⟩ : ∃ wo : World, wo = wr := ⟨_, rfl⟩
        have hGo : G = wo.heap.size := by rw [hwo]; exact hG
        have HG2 : Hid (W2.heap[G]? = some (.cells (stC s.op s.name s.dst ms.ta ms.tk s.src ms.va ms.vk (.slice ms.ca s.conds.length ms.ck) (.slice ms.la s.labels.length ms.lk) (.slice ms.fa s.fields.length ms.fk) (.slice ms.ba s.blocks.length ms.bk) s.line) 63)) := Lib.hid (by rw [hW2.out, hG]; exact heap_alloc_new _ _)
        have HB2 : Hid (Below wo.heap.size wo W2) := Lib.hid (by rw [hW2.out, hwo]; (repeat' (first | (with_reducible exact Below.refl _ _) | (with_reducible assumption) | (with_reducible refine below_drewN ?_ _) | (with_reducible refine Below.drew ?_) | (with_reducible refine below_new ?_ (Nat.le_refl _) _) | (with_reducible refine Below.setCell ?_ ?_ _) | (with_reducible refine below_go ?_ (by assumption) (Nat.le_refl _)) | (simp; done) | (simp; omega) | omega)))
        have hs2 : W2.heap.size = G + 1 := by rw [hW2.out, hG]; simp
        have HRGo : Hid (wo.rangeAt b (off + i * 19) (StmC s ms)) := Lib.hid (by rw [hwo]; exact HRG.out)
        have HSVo : Hid (SV (only wo (oldP p H)) b (off + i * 19) s ms) := Lib.hid (by rw [hwo]; exact HSV.out)
        have HBR := Lib.hid (show Below w.heap.size w wo by rw [hwo]; exact hbr)
        have HBU' := Lib.hid (show Built StmAt 63 19 p wo H (foldSs opF (xs.take i)) vo by rw [hwo]; exact HBU.out)
        have hbo : b < wo.heap.size := by rw [hwo]; simpa [only_size] using hbl
        clear hW2 HRG HSV hbr HBU hbl
        clear hG
        clear hwo
        have hGo1 : G ≤ wo.heap.size := by omega
        have hGo2 : wo.heap.size ≤ G := by omega
        clear hGo
        try simp only [Act.put]
        have hHo : H ≤ wo.heap.size := by have := HBR.out.size; omega
        have HDO : Hid (∀ W', Below wo.heap.size wo W' → Moves (only wo (oldP p H)) W') := Lib.hid (fun W' h => (Moves.onlyB h fun b _ h => h).trans (Moves.only W' (oldP p H)))
        have HX3 : Hid (ExAt W2 s.dst (ExC s.dst ms.ta ms.tk)) := Lib.hid (HSVo.out.dst.move (HDO.out _ HB2.out))
        go_wp2_with (refine wpList_load_mid rfl 39 _ rfl G 2 rfl (ExC s.dst ms.ta ms.tk) _ (stC_rdst HG2.out) Try.underlying39 rfl expr_size ?_)
        refine (rexpr_at _ s.dst (Nat.lt_succ_self _) HNG.out.parts.1 _ ms.ta ms.tk (HX3.out)).mono ?_
        rintro e w3 ⟨⟨B1, b1, rfl, hat3⟩, hb3⟩
        obtain ⟨y1, hy3⟩ : ∃ y, foldE opF s.dst = y := ⟨_, rfl⟩
        rw [hy3] at hat3 ⊢
        have HY3 := Lib.hid hy3
        have hg3 := (hb3.block G (by omega)).trans HG2.out
        have HG3c := Lib.hid hg3
        have hzz3 := hb3.size
        have HAT3 := Lib.hid hat3
        have HBc3 := Lib.hid (HB2.out.trans (hb3.mono HB2.out.size))
        have HBl3 := Lib.hid hb3
        clear hat3 hb3 hy3 hg3
        have HTH3 : Hid (w3.there G 2 6) := Lib.hid (there_heap HG3c.out (by show 2 + 6 ≤ 19; omega))
        go_upto_region 7 with (refine wpList_store_midTo rfl 39 _ _ rfl rfl G 2 (exA y1.op y1.n y1.name y1.field B1 y1.sub.length b1 y1.line) rfl rfl HTH3.out expr_size (exA_one _ _ _ _ _ _ _ _) ?_)
        refine wp_name fun W3 hW3 => ?_
        have HG3 : Hid (W3.heap[G]? = some (.cells (stC s.op s.name y1 B1 b1 s.src ms.va ms.vk (.slice ms.ca s.conds.length ms.ck) (.slice ms.la s.labels.length ms.lk) (.slice ms.fa s.fields.length ms.fk) (.slice ms.ba s.blocks.length ms.bk) s.line) 63)) := Lib.hid (by rw [hW3.out, ← stC_dst]; exact heap_setCells _ _ _ _ HG3c.out)
        have HB3 := Lib.hid (show Below wo.heap.size wo W3 by rw [hW3.out]; exact below_cells (by omega) _ _ _ HBc3.out)
        have hs3 : W3.heap.size = w3.heap.size := by rw [hW3.out, setCells_size]
        have HAW3 : Hid (ExAt (only W3 (news (G + 1))) y1 (ExC y1 B1 b1)) := Lib.hid (HAT3.out.move (.onlyW (by omega) fun b hb hp => ⟨by rw [news_iff] at hp ⊢; omega, by rw [news_iff] at hp; rw [hW3.out, setCells_ne (by omega)]⟩))
        clear hW3
        have HX4 : Hid (ExAt W3 s.src (ExC s.src ms.va ms.vk)) := Lib.hid (HSVo.out.src.move (HDO.out _ HB3.out))
        have hGW3 : G < W3.heap.size := by omega
        go_wp2_with (refine wpList_load_mid rfl 39 _ rfl G 8 rfl (ExC s.src ms.va ms.vk) _ (stC_rsrc HG3.out) Try.underlying39 rfl expr_size ?_)
        refine (rexpr_at _ s.src (Nat.lt_succ_self _) HNG.out.parts.2.1 _ ms.va ms.vk (HX4.out)).mono ?_
        rintro e w4 ⟨⟨B2, b2, rfl, hat4⟩, hb4⟩
        obtain ⟨y2, hy4⟩ : ∃ y, foldE opF s.src = y := ⟨_, rfl⟩
        rw [hy4] at hat4 ⊢
        have HY4 := Lib.hid hy4
        have hg4 := (hb4.block G (by omega)).trans HG3.out
        have HG4c := Lib.hid hg4
        have hzz4 := hb4.size
        have HAT4 := Lib.hid hat4
        have HBc4 := Lib.hid (HB3.out.trans (hb4.mono HB3.out.size))
        have HBl4 := Lib.hid hb4
        clear hat4 hb4 hy4 hg4
        have HTH4 : Hid (w4.there G 8 6) := Lib.hid (there_heap HG4c.out (by show 8 + 6 ≤ 19; omega))
        go_upto_region 8 with (refine wpList_store_midTo rfl 39 _ _ rfl rfl G 8 (exA y2.op y2.n y2.name y2.field B2 y2.sub.length b2 y2.line) rfl rfl HTH4.out expr_size (exA_one _ _ _ _ _ _ _ _) ?_)
        refine wp_name fun W4 hW4 => ?_
        have HG4 : Hid (W4.heap[G]? = some (.cells (stC s.op s.name y1 B1 b1 y2 B2 b2 (.slice ms.ca s.conds.length ms.ck) (.slice ms.la s.labels.length ms.lk) (.slice ms.fa s.fields.length ms.fk) (.slice ms.ba s.blocks.length ms.bk) s.line) 63)) := Lib.hid (by rw [hW4.out, ← stC_src]; exact heap_setCells _ _ _ _ HG4c.out)
        have HB4 := Lib.hid (show Below wo.heap.size wo W4 by rw [hW4.out]; exact below_cells (by omega) _ _ _ HBc4.out)
        have hs4 : W4.heap.size = w4.heap.size := by rw [hW4.out, setCells_size]
        have HAW4 : Hid (ExAt (only W4 (news (G + 1))) y2 (ExC y2 B2 b2)) := Lib.hid (HAT4.out.move (.onlyW (by omega) fun b hb hp => ⟨by rw [news_iff] at hp ⊢; omega, by rw [news_iff] at hp; rw [hW4.out, setCells_ne (by omega)]⟩))
        have HAX4 : Hid (ExAt (only W4 (news (G + 1))) y1 (ExC y1 B1 b1)) := Lib.hid (HAW3.out.move (.onlyW (by omega) fun b hb hp => ⟨hp, by rw [news_iff] at hp; rw [hW4.out, setCells_ne (by omega), HBl4.out.block b hb]⟩))
        clear hW4
        have d4 : W4.cell? ⟨G, 14, none⟩ = some (.slice ms.ca s.conds.length ms.ck) := heap_cell 14 _ HG4.out rfl
        have df : W4.frozen? ⟨G, 14, none⟩ = false := heap_free 14 HG4.out
        have hGW4 : G < W4.heap.size := by omega
        go_upto_region 9 with (fail)
        refine wp_name fun WN hWN => ?_
        obtain ⟨N, hN⟩ : ∃ N, N = WN.heap.size := ⟨_, rfl⟩
        have HGN : Hid (WN.heap[G]? = some (.cells (stC s.op s.name y1 B1 b1 y2 B2 b2 (.slice none 0 0) (.slice ms.la s.labels.length ms.lk) (.slice ms.fa s.fields.length ms.fk) (.slice ms.ba s.blocks.length ms.bk) s.line) 63)) := Lib.hid (by rw [hWN.out]; exact cells_set HG4.out)
        have HBN := Lib.hid (show Below wo.heap.size wo WN by rw [hWN.out]; exact HB4.out.setCell (by show wo.heap.size ≤ G; omega) _)
        have hGN : G + 1 ≤ N := by rw [hN, hWN.out]; simp; omega
        have HP1 : Hid (ExAt (only WN (news (G + 1))) y1 (ExC y1 B1 b1) ∧ ExAt (only WN (news (G + 1))) y2 (ExC y2 B2 b2)) := by
          have hmv : Moves (only W4 (news (G + 1))) (only WN (news (G + 1))) := .onlyW (by rw [hWN.out]; simp) fun b hb hp => ⟨hp, by rw [news_iff] at hp; rw [hWN.out, heap_setCell_other _ _ _ _ (by show b ≠ G; omega)]⟩
          exact Lib.hid ⟨HAX4.out.move hmv, HAW4.out.move hmv⟩
        have HKN : Hid (Keep N G WN WN) := Lib.hid ⟨by omega, fun _ _ _ => rfl⟩
        have HNW := Lib.hid hN
        clear hWN d4 df hN HAX4 HAW3 HAW4 HG2 HG3 HG4 HB2 HB3 HB4 HX3 HX4 HAT3 HAT4 HBc3 HBc4 HBl3 HBl4 HG3c HG4c HTH3 HTH4 hs2 hs3 hs4 hzz3 hzz4 hGW3 hGW4
        obtain ⟨i0, hi0', hz0, hz1, hz2⟩ := info_parts expr_info
        have HI := Lib.hid hi0'
        have HZ0 := Lib.hid hz0
        have HZ1 := Lib.hid hz1
        have HZ2 := Lib.hid hz2
        clear hi0' hz0 hz1 hz2
        obtain ⟨nc, hnc⟩ : ∃ n, s.conds.length = n := ⟨_, rfl⟩
        have HNC := Lib.hid hnc
        have hcl := HSVo.out.conds.1
        have hcc := HSVo.out.conds.2.1
        have hcb := HSVo.out.conds.2.2.1
        rw [hnc] at hcl hcb
        clear hnc
        have HC14 : Hid (∀ W', Below wo.heap.size wo W' → W'.cell? ⟨b, off + i * 19 + 14, none⟩ = some (.slice ms.ca nc ms.ck)) := Lib.hid (fun W' h => (h.cell (p := ⟨b, off + i * 19 + 14, none⟩) hbo).trans (by have := HRGo.out 14 _ rfl; rwa [HNC.out] at this))
        go_wp2_with fail
        go_loopw [6] (fun u wr => ∃ (j : Nat) (v' : Value), j ≤ nc ∧ u = .int .i64 j ∧ Hid (wr.heap[G]? = some (.cells (stC s.op s.name y1 B1 b1 y2 B2 b2 v' (.slice ms.la s.labels.length ms.lk) (.slice ms.fa s.fields.length ms.fk) (.slice ms.ba s.blocks.length ms.bk) s.line) 63)) ∧ Hid (BuiltE wr N (foldEs opF (s.conds.take j)) v') ∧ Hid (Below wo.heap.size wo wr) ∧ Hid (Keep N G WN wr)) (fun u _ => nc - (intOf u).toNat)
        case atStart => exact ⟨0, _, by omega, rfl, HGN, Lib.hid (by rw [List.take_zero, foldEs]; exact BuiltE.nil _ _), HBN, HKN⟩
        case round =>
          obtain ⟨j, v', hj, rfl, HGC, HBUE, HBO, HKP⟩ := hrel
          have c14 := HC14.out _ HBO.out
          have d4 : wr.cell? ⟨G, 14, none⟩ = some v' := heap_cell 14 _ HGC.out rfl
          have hNs := HKP.out.size
          by_cases hlt2 : j < nc
          · obtain ⟨bc, oc, y, As, ks, hca, hbl, hyc, hat, hsub, hrng⟩ := RowE.at HSVo.out.conds (i := j) (by rw [HNC.out]; exact hlt2)
            rw [only_size] at hbl
            have hj0 : (0 : Int) ≤ (j : Int) ∧ (j : Int) < (nc : Int) := by omega
            have hdr : Below wr.heap.size wr wr.drew := Below.drew (Below.refl _ _)
            have HBD := Lib.hid (HBO.out.trans (hdr.mono HBO.out.size))
            have HYC := Lib.hid hyc
            have HATD := Lib.hid (hat.move (HDO.out _ HBD.out))
            have HSB : Hid (∀ W', Below wo.heap.size wo W' → W'.cell? ⟨b, off + i * 19 + 14, none⟩ = some (.slice (some ⟨bc, oc, none⟩) nc ms.ck) ∧ W'.rangeAt bc (oc + j * 6) (ExC y As ks)) := Lib.hid (fun W' hW' => ⟨by rw [← hca]; exact HC14.out _ hW', fun q u hu => (hW'.cell (p := ⟨bc, oc + j * 6 + q, none⟩) hbl).trans (only_cell (hrng q u hu)).2⟩)
            rw [hca] at c14
            clear hyc hat hsub hrng hca
            go_wp2_with fail
            refine wp_region_held_drew (S := fun W' => W'.cell? ⟨b, off + i * 19 + 14, none⟩ = some (.slice (some ⟨bc, oc, none⟩) nc ms.ck) ∧ W'.rangeAt bc (oc + j * 6) (ExC y As ks)) (by kernel_rfl) (HSB.out _ HBD.out) (fun hHeld => ?_)
            (try simp only [Act.put, List.setIfInBounds_toArray, List.set_cons_zero, List.set_cons_succ])
            (refine takeH (i := 0) (v := ?_) rfl (by kernel_rfl) (by kernel_rfl) (by kernel_rfl) (fun _ _ _ h => h) (Or.inl ⟨by first | kernel_rfl | rfl, ?_⟩) (by assumption) ?_; rotate_left; (focus (intro w' hSw; (try dsimp only at hSw); go_simp; try (with_reducible rfl))); (try simp only [Act.put, List.setIfInBounds_toArray, List.set_cons_zero, List.set_cons_succ]))
            (refine takeH (i := 2) (v := ?_) rfl (by kernel_rfl) (by kernel_rfl) (by kernel_rfl) (fun _ _ _ h => h) (Or.inl ⟨by first | kernel_rfl | rfl, ?_⟩) (by assumption) ?_; rotate_left; (focus (intro w' hSw; (try dsimp only at hSw); go_simp; try (with_reducible rfl))); (try simp only [Act.put, List.setIfInBounds_toArray, List.set_cons_zero, List.set_cons_succ]))
            (refine takeH (i := 3) (v := ?_) rfl (by kernel_rfl) (by kernel_rfl) (by kernel_rfl) (fun _ _ _ h => h) (Or.inl ⟨by first | kernel_rfl | rfl, ?_⟩) (by assumption) ?_; rotate_left; (focus (intro w' hSw; (try dsimp only at hSw); go_simp; try (with_reducible rfl))); (try simp only [Act.put, List.setIfInBounds_toArray, List.set_cons_zero, List.set_cons_succ]))
            (refine takeH (i := 4) (v := ?_) rfl (by kernel_rfl) (by kernel_rfl) (by kernel_rfl) (fun _ _ _ h => h) (Or.inl ⟨by first | kernel_rfl | rfl, ?_⟩) (by assumption) ?_; rotate_left; (focus (intro w' hSw; (try dsimp only at hSw); go_simp; try (with_reducible rfl))); (try simp only [Act.put, List.setIfInBounds_toArray, List.set_cons_zero, List.set_cons_succ]))
            (refine takeH (i := 5) (v := ?_) rfl (by kernel_rfl) (by kernel_rfl) (by kernel_rfl) (fun _ _ _ h => h) (Or.inl ⟨by first | kernel_rfl | rfl, ?_⟩) (by assumption) ?_; rotate_left; (focus (intro w' hSw; (try dsimp only at hSw); go_simp; try (with_reducible rfl))); (try simp only [Act.put, List.setIfInBounds_toArray, List.set_cons_zero, List.set_cons_succ]))
            (refine takeH (i := 6) (v := ?_) rfl (by kernel_rfl) (by kernel_rfl) (by kernel_rfl) (fun _ _ _ h => h) (Or.inl ⟨by first | kernel_rfl | rfl, ?_⟩) (by assumption) ?_; rotate_left; (focus (intro w' hSw; (try dsimp only at hSw); go_simp; try (with_reducible rfl))); (try simp only [Act.put, List.setIfInBounds_toArray, List.set_cons_zero, List.set_cons_succ]))
            (refine takeH (i := 7) (v := ?_) rfl (by kernel_rfl) (by kernel_rfl) (by kernel_rfl) (fun _ _ _ h => h) (Or.inl ⟨by first | kernel_rfl | rfl, ?_⟩) (by assumption) ?_; rotate_left; (focus (intro w' hSw; (try dsimp only at hSw); go_simp; try (with_reducible rfl))); (try simp only [Act.put, List.setIfInBounds_toArray, List.set_cons_zero, List.set_cons_succ]))
            (refine takeH (i := 8) (v := ?_) rfl (by kernel_rfl) (by kernel_rfl) (by kernel_rfl) (fun _ _ _ h => h) (Or.inl ⟨by first | kernel_rfl | rfl, ?_⟩) (by assumption) ?_; rotate_left; (focus (intro w' hSw; (try dsimp only at hSw); go_simp; try (with_reducible rfl))); (try simp only [Act.put, List.setIfInBounds_toArray, List.set_cons_zero, List.set_cons_succ]))
            (refine takeH (i := 9) (v := .agg (ExC y As ks).toArray) rfl (by kernel_rfl) (by kernel_rfl) (by kernel_rfl) (fun _ _ _ h => h) (yieldsIf_load_mid (by first | kernel_rfl | rfl) 39 _ rfl bc (oc + j * 6) rfl (ExC y As ks) _ (fun W' h => h.2) Try.underlying39 rfl expr_size) (by assumption) ?_; (try simp only [Act.put, List.setIfInBounds_toArray, List.set_cons_zero, List.set_cons_succ]))
            refine twoH (i := 1) (j := 10) (by kernel_rfl) rfl rfl (fun K hK => ?_) (fun K hK => ?_)
            · go_simp
              refine hK.out _ _ (HSB.out _ (by first | exact HB1a.out | exact HB1.out | exact HBD.out)) (fun hHeld => ?_)
              clear hK K
              (try simp only [Act.put, List.setIfInBounds_toArray, List.set_cons_zero, List.set_cons_succ])
              refine oneH (i := 10) (by kernel_rfl) rfl (fun K hK => ?_)
              go_simp
              go_at_call 33
              refine (rexpr_at _ y (Nat.lt_succ_self _) (HNG.out.parts.2.2.1 y (List.mem_of_getElem? HYC.out)) wr.drew As ks HATD.out).mono ?_
              rintro e w1 ⟨⟨A1, c1, rfl, hat1⟩, hb1⟩
              obtain ⟨y', hy'⟩ : ∃ y', foldE opF y = y' := ⟨_, rfl⟩
              rw [hy'] at hat1 ⊢
              have hz1 : wr.heap.size ≤ w1.heap.size := hb1.size
              have k4 := (hb1.cell (p := ⟨G, 14, none⟩) (by show G < wr.heap.size; omega)).trans d4
              have lG1 : G < w1.heap.size := by have : wr.heap.size ≤ w1.heap.size := hz1; omega
              have HB1 := Lib.hid (HBD.out.trans (hb1.mono HBD.out.size))
              have HK1 := Lib.hid ((HKP.out.below hdr).below hb1)
              have HG1 := Lib.hid ((hb1.block G (by show G < wr.heap.size; omega)).trans HGC.out)
              obtain ⟨cs, hown, hcs⟩ := (HBUE.out.below (hdr.trans (hb1.mono (Nat.le_refl _))))
              rw [foldEs_len, List.length_take, Nat.min_eq_left (by rw [HNC.out]; omega)] at hown
              have hb1a : Below w1.heap.size w1 (w1.alloc (.cells (exA y'.op y'.n y'.name y'.field A1 y'.sub.length c1 y'.line) 39)) := below_new (Below.refl _ _) (Nat.le_refl _) _
              have hat2 : ExAt (only (w1.alloc (.cells (exA y'.op y'.n y'.name y'.field A1 y'.sub.length c1 y'.line) 39)) (frees N v')) y' (ExC y' A1 c1) := hat1.move (.onlyB hb1a fun b hb hp => by
                have hp : wr.heap.size ≤ b := (by simp only [news, decide_eq_true_eq] at hp; exact hp)
                simp only [frees, Bool.and_eq_true, decide_eq_true_eq]
                refine ⟨by omega, fun e => ?_⟩
                obtain ⟨cs0, ho0, -⟩ := HBUE.out
                have := (ho0.lt b e.symm).2
                omega)
              have HAT2 := Lib.hid hat2
              have HCS := Lib.hid (hcs.mono fun z c hz => hz.move (.onlyB hb1a fun b _ h => h))
              have HOWN := Lib.hid hown
              have HYY := Lib.hid hy'
              clear hat1 hat2 hcs hown hb1 hb1a hy'
              have HB1a : Hid (Below wo.heap.size wo (w1.alloc (.cells (exA y'.op y'.n y'.name y'.field A1 y'.sub.length c1 y'.line) 39))) := Lib.hid (below_new HB1.out (Nat.le_refl _) _)
              refine hK.out _ _ (HSB.out _ HB1.out) (fun hHeld => ?_)
              clear hK K
              (try simp only [Act.put, List.setIfInBounds_toArray, List.set_cons_zero, List.set_cons_succ])
              refine oneH (i := 11) (by kernel_rfl) rfl (fun K hK => ?_)
              go_simp
              refine hK.out _ (w1.alloc (.cells (exA y'.op y'.n y'.name y'.field A1 y'.sub.length c1 y'.line) 39)) (HSB.out _ HB1a.out) (fun hHeld => ?_)
              clear hK K
              (try simp only [Act.put, List.setIfInBounds_toArray, List.set_cons_zero, List.set_cons_succ])
              refine oneH (i := 12) (by kernel_rfl) rfl (fun K hK => ?_)
              refine step_append_lies _ rfl (.tmp 38) (.tmp 48) 37 rfl N 39 i0 (.agg #[.int .i64 0, .int .i64 0, .string ⟨#[]⟩, .string ⟨#[]⟩, .slice none 0 0, .int .i64 0]) 6 80 Try.underlying37 HI.out HZ0.out HZ1.out HZ2.out rfl (by decide) v' j _ rfl (HOWN.out.alloc _) ⟨w1.heap.size, 0, none⟩ 1 1 (ExC y' A1 c1) rfl rfl ?c4 ?c6 (by decide) ?c1 ?c2 ?c3 (w1.heap.size + 1) ?c5 ?_
              case c4 =>
                intro q u hu
                have had : (⟨w1.heap.size, 0, none⟩ : Addr).add q = ⟨w1.heap.size, q, none⟩ := by cases q <;> simp [Addr.add]
                rw [had]
                exact heap_cell q _ (heap_alloc_new w1 _) (by rw [List.getElem?_toArray]; exact hu)
              case c6 => intro u hu; exact (List.all_eq_true.1 (by simpa using exC_one y' A1 c1) u hu)
              case c1 => unfold maxLen; omega
              case c2 => omega
              case c3 => first | omega | (simp; omega)
              case c5 => simp
              intro g cap2 w2 hown2 hgrow hatg hg2
              have HBU3 : Hid (BuiltE w2 N (foldEs opF (s.conds.take (j + 1))) (.slice (some ⟨g, 0, none⟩) (j + 1) cap2)) := Lib.hid (by
                rw [foldEs_snoc opF HYC.out, HYY.out]
                exact BuiltE.snoc HCS.out HAT2.out hown2 (by rw [foldEs_len, List.length_take, Nat.min_eq_left (by rw [HNC.out]; omega)]) hgrow (hatg.imp id fun h => by rw [h]; simp))
              have hKa : Keep N G WN (w1.alloc (.cells (exA y'.op y'.n y'.name y'.field A1 y'.sub.length c1 y'.line) 39)) := HK1.out.below (below_new (Below.refl _ _) (Nat.le_refl _) _)
              have HK2 := Lib.hid (hKa.grown (HOWN.out.alloc _) hgrow)
              have hb2 : Below wo.heap.size wo w2 := below_grown HB1a.out hgrow (HOWN.out.alloc _) (by omega) HB1a.out.size
              have hG2 : w2.heap[G]? = some (.cells (stC s.op s.name y1 B1 b1 y2 B2 b2 v' (.slice ms.la s.labels.length ms.lk) (.slice ms.fa s.fields.length ms.fk) (.slice ms.ba s.blocks.length ms.bk) s.line) 63) := by
                rw [hgrow.block G (by simp; omega) (fun e => by have := (HOWN.out.lt G e.symm).1; omega), heap_alloc_old _ _ (by omega)]
                exact HG1.out
              have q4 : w2.cell? ⟨G, 14, none⟩ = some v' := heap_cell 14 _ hG2 rfl
              have qf : w2.frozen? ⟨G, 14, none⟩ = false := heap_free 14 hG2
              have HB2 := Lib.hid hb2
              have HG2 := Lib.hid hG2
              clear hown2 hgrow hatg hKa HAT2 HCS HOWN hb2 hG2
              refine hK.out _ _ (HSB.out _ HB2.out) (fun hHeld => ?_)
              clear hK K
              (try simp only [Act.put, List.setIfInBounds_toArray, List.set_cons_zero, List.set_cons_succ])
              refine oneH (i := 13) (by kernel_rfl) rfl (fun K hK => ?_)
              go_simp
              refine hK.out _ _ (HSB.out _ HB2.out) (fun hHeld => ?_)
              clear hK K
              (try simp only [Act.put, List.setIfInBounds_toArray, List.set_cons_zero, List.set_cons_succ])
              refine oneH (i := 14) (by kernel_rfl) rfl (fun K hK => ?_)
              go_simp
              have HB3 : Hid (Below wo.heap.size wo (w2.setCell ⟨G, 14, none⟩ (.slice (some ⟨g, 0, none⟩) (j + 1) cap2))) := Lib.hid (HB2.out.setCell (by show wo.heap.size ≤ G; omega) _)
              refine hK.out _ _ (HSB.out _ HB3.out) (fun hHeld => ?_)
              clear hK K
              (try simp only [Act.put, List.setIfInBounds_toArray, List.set_cons_zero, List.set_cons_succ])
              refine wpAnyH_done (by kernel_rfl) ?_ _
              (try simp only [Act.put, List.setIfInBounds_toArray, List.set_cons_zero, List.set_cons_succ])
              clear q4 qf k4
              have HG3 := Lib.hid (show (w2.setCell ⟨G, 14, none⟩ (.slice (some ⟨g, 0, none⟩) (j + 1) cap2)).heap[G]? = some (.cells (stC s.op s.name y1 B1 b1 y2 B2 b2 (.slice (some ⟨g, 0, none⟩) (j + 1) cap2) (.slice ms.la s.labels.length ms.lk) (.slice ms.fa s.fields.length ms.fk) (.slice ms.ba s.blocks.length ms.bk) s.line) 63) from cells_set (k := 14) (v := .slice (some ⟨g, 0, none⟩) (j + 1) cap2) HG2.out)
              have HBU4 := Lib.hid (HBU3.out.setCell (p := ⟨G, 14, none⟩) (by show G < N; omega) (.slice (some ⟨g, 0, none⟩) (j + 1) cap2))
              have HK3 := Lib.hid (HK2.out.set 14 (.slice (some ⟨g, 0, none⟩) (j + 1) cap2))
              go_wp2
              go_roundw
              case rel => exact ⟨j + 1, _, by omega, by go_num, HG3, HBU4, HB3, HK3⟩
              case measure => simp [intOf]; omega
            · go_simp
              go_at_call 33
              refine (rexpr_at _ y (Nat.lt_succ_self _) (HNG.out.parts.2.2.1 y (List.mem_of_getElem? HYC.out)) wr.drew As ks HATD.out).mono ?_
              rintro e w1 ⟨⟨A1, c1, rfl, hat1⟩, hb1⟩
              obtain ⟨y', hy'⟩ : ∃ y', foldE opF y = y' := ⟨_, rfl⟩
              rw [hy'] at hat1 ⊢
              have hz1 : wr.heap.size ≤ w1.heap.size := hb1.size
              have k4 := (hb1.cell (p := ⟨G, 14, none⟩) (by show G < wr.heap.size; omega)).trans d4
              have lG1 : G < w1.heap.size := by have : wr.heap.size ≤ w1.heap.size := hz1; omega
              have HB1 := Lib.hid (HBD.out.trans (hb1.mono HBD.out.size))
              have HK1 := Lib.hid ((HKP.out.below hdr).below hb1)
              have HG1 := Lib.hid ((hb1.block G (by show G < wr.heap.size; omega)).trans HGC.out)
              obtain ⟨cs, hown, hcs⟩ := (HBUE.out.below (hdr.trans (hb1.mono (Nat.le_refl _))))
              rw [foldEs_len, List.length_take, Nat.min_eq_left (by rw [HNC.out]; omega)] at hown
              have hb1a : Below w1.heap.size w1 (w1.alloc (.cells (exA y'.op y'.n y'.name y'.field A1 y'.sub.length c1 y'.line) 39)) := below_new (Below.refl _ _) (Nat.le_refl _) _
              have hat2 : ExAt (only (w1.alloc (.cells (exA y'.op y'.n y'.name y'.field A1 y'.sub.length c1 y'.line) 39)) (frees N v')) y' (ExC y' A1 c1) := hat1.move (.onlyB hb1a fun b hb hp => by
                have hp : wr.heap.size ≤ b := (by simp only [news, decide_eq_true_eq] at hp; exact hp)
                simp only [frees, Bool.and_eq_true, decide_eq_true_eq]
                refine ⟨by omega, fun e => ?_⟩
                obtain ⟨cs0, ho0, -⟩ := HBUE.out
                have := (ho0.lt b e.symm).2
                omega)
              have HAT2 := Lib.hid hat2
              have HCS := Lib.hid (hcs.mono fun z c hz => hz.move (.onlyB hb1a fun b _ h => h))
              have HOWN := Lib.hid hown
              have HYY := Lib.hid hy'
              clear hat1 hat2 hcs hown hb1 hb1a hy'
              have HB1a : Hid (Below wo.heap.size wo (w1.alloc (.cells (exA y'.op y'.n y'.name y'.field A1 y'.sub.length c1 y'.line) 39))) := Lib.hid (below_new HB1.out (Nat.le_refl _) _)
              refine hK.out _ _ (HSB.out _ HB1.out) (fun hHeld => ?_)
              clear hK K
              (try simp only [Act.put, List.setIfInBounds_toArray, List.set_cons_zero, List.set_cons_succ])
              refine twoH (i := 1) (j := 11) (by kernel_rfl) rfl rfl (fun K hK => ?_) (fun K hK => ?_)
              · go_simp
                refine hK.out _ _ (HSB.out _ (by first | exact HB1a.out | exact HB1.out | exact HBD.out)) (fun hHeld => ?_)
                clear hK K
                (try simp only [Act.put, List.setIfInBounds_toArray, List.set_cons_zero, List.set_cons_succ])
                refine oneH (i := 11) (by kernel_rfl) rfl (fun K hK => ?_)
                go_simp
                refine hK.out _ (w1.alloc (.cells (exA y'.op y'.n y'.name y'.field A1 y'.sub.length c1 y'.line) 39)) (HSB.out _ HB1a.out) (fun hHeld => ?_)
                clear hK K
                (try simp only [Act.put, List.setIfInBounds_toArray, List.set_cons_zero, List.set_cons_succ])
                refine oneH (i := 12) (by kernel_rfl) rfl (fun K hK => ?_)
                refine step_append_lies _ rfl (.tmp 38) (.tmp 48) 37 rfl N 39 i0 (.agg #[.int .i64 0, .int .i64 0, .string ⟨#[]⟩, .string ⟨#[]⟩, .slice none 0 0, .int .i64 0]) 6 80 Try.underlying37 HI.out HZ0.out HZ1.out HZ2.out rfl (by decide) v' j _ rfl (HOWN.out.alloc _) ⟨w1.heap.size, 0, none⟩ 1 1 (ExC y' A1 c1) rfl rfl ?c4 ?c6 (by decide) ?c1 ?c2 ?c3 (w1.heap.size + 1) ?c5 ?_
                case c4 =>
                  intro q u hu
                  have had : (⟨w1.heap.size, 0, none⟩ : Addr).add q = ⟨w1.heap.size, q, none⟩ := by cases q <;> simp [Addr.add]
                  rw [had]
                  exact heap_cell q _ (heap_alloc_new w1 _) (by rw [List.getElem?_toArray]; exact hu)
                case c6 => intro u hu; exact (List.all_eq_true.1 (by simpa using exC_one y' A1 c1) u hu)
                case c1 => unfold maxLen; omega
                case c2 => omega
                case c3 => first | omega | (simp; omega)
                case c5 => simp
                intro g cap2 w2 hown2 hgrow hatg hg2
                have HBU3 : Hid (BuiltE w2 N (foldEs opF (s.conds.take (j + 1))) (.slice (some ⟨g, 0, none⟩) (j + 1) cap2)) := Lib.hid (by
                  rw [foldEs_snoc opF HYC.out, HYY.out]
                  exact BuiltE.snoc HCS.out HAT2.out hown2 (by rw [foldEs_len, List.length_take, Nat.min_eq_left (by rw [HNC.out]; omega)]) hgrow (hatg.imp id fun h => by rw [h]; simp))
                have hKa : Keep N G WN (w1.alloc (.cells (exA y'.op y'.n y'.name y'.field A1 y'.sub.length c1 y'.line) 39)) := HK1.out.below (below_new (Below.refl _ _) (Nat.le_refl _) _)
                have HK2 := Lib.hid (hKa.grown (HOWN.out.alloc _) hgrow)
                have hb2 : Below wo.heap.size wo w2 := below_grown HB1a.out hgrow (HOWN.out.alloc _) (by omega) HB1a.out.size
                have hG2 : w2.heap[G]? = some (.cells (stC s.op s.name y1 B1 b1 y2 B2 b2 v' (.slice ms.la s.labels.length ms.lk) (.slice ms.fa s.fields.length ms.fk) (.slice ms.ba s.blocks.length ms.bk) s.line) 63) := by
                  rw [hgrow.block G (by simp; omega) (fun e => by have := (HOWN.out.lt G e.symm).1; omega), heap_alloc_old _ _ (by omega)]
                  exact HG1.out
                have q4 : w2.cell? ⟨G, 14, none⟩ = some v' := heap_cell 14 _ hG2 rfl
                have qf : w2.frozen? ⟨G, 14, none⟩ = false := heap_free 14 hG2
                have HB2 := Lib.hid hb2
                have HG2 := Lib.hid hG2
                clear hown2 hgrow hatg hKa HAT2 HCS HOWN hb2 hG2
                refine hK.out _ _ (HSB.out _ HB2.out) (fun hHeld => ?_)
                clear hK K
                (try simp only [Act.put, List.setIfInBounds_toArray, List.set_cons_zero, List.set_cons_succ])
                refine oneH (i := 13) (by kernel_rfl) rfl (fun K hK => ?_)
                go_simp
                refine hK.out _ _ (HSB.out _ HB2.out) (fun hHeld => ?_)
                clear hK K
                (try simp only [Act.put, List.setIfInBounds_toArray, List.set_cons_zero, List.set_cons_succ])
                refine oneH (i := 14) (by kernel_rfl) rfl (fun K hK => ?_)
                go_simp
                have HB3 : Hid (Below wo.heap.size wo (w2.setCell ⟨G, 14, none⟩ (.slice (some ⟨g, 0, none⟩) (j + 1) cap2))) := Lib.hid (HB2.out.setCell (by show wo.heap.size ≤ G; omega) _)
                refine hK.out _ _ (HSB.out _ HB3.out) (fun hHeld => ?_)
                clear hK K
                (try simp only [Act.put, List.setIfInBounds_toArray, List.set_cons_zero, List.set_cons_succ])
                refine wpAnyH_done (by kernel_rfl) ?_ _
                (try simp only [Act.put, List.setIfInBounds_toArray, List.set_cons_zero, List.set_cons_succ])
                clear q4 qf k4
                have HG3 := Lib.hid (show (w2.setCell ⟨G, 14, none⟩ (.slice (some ⟨g, 0, none⟩) (j + 1) cap2)).heap[G]? = some (.cells (stC s.op s.name y1 B1 b1 y2 B2 b2 (.slice (some ⟨g, 0, none⟩) (j + 1) cap2) (.slice ms.la s.labels.length ms.lk) (.slice ms.fa s.fields.length ms.fk) (.slice ms.ba s.blocks.length ms.bk) s.line) 63) from cells_set (k := 14) (v := .slice (some ⟨g, 0, none⟩) (j + 1) cap2) HG2.out)
                have HBU4 := Lib.hid (HBU3.out.setCell (p := ⟨G, 14, none⟩) (by show G < N; omega) (.slice (some ⟨g, 0, none⟩) (j + 1) cap2))
                have HK3 := Lib.hid (HK2.out.set 14 (.slice (some ⟨g, 0, none⟩) (j + 1) cap2))
                go_wp2
                go_roundw
                case rel => exact ⟨j + 1, _, by omega, by go_num, HG3, HBU4, HB3, HK3⟩
                case measure => simp [intOf]; omega
              · go_simp
                refine hK.out _ (w1.alloc (.cells (exA y'.op y'.n y'.name y'.field A1 y'.sub.length c1 y'.line) 39)) (HSB.out _ HB1a.out) (fun hHeld => ?_)
                clear hK K
                (try simp only [Act.put, List.setIfInBounds_toArray, List.set_cons_zero, List.set_cons_succ])
                refine oneH (i := 1) (by kernel_rfl) rfl (fun K hK => ?_)
                go_simp
                refine hK.out _ _ (HSB.out _ (by first | exact HB1a.out | exact HB1.out | exact HBD.out)) (fun hHeld => ?_)
                clear hK K
                (try simp only [Act.put, List.setIfInBounds_toArray, List.set_cons_zero, List.set_cons_succ])
                refine oneH (i := 12) (by kernel_rfl) rfl (fun K hK => ?_)
                refine step_append_lies _ rfl (.tmp 38) (.tmp 48) 37 rfl N 39 i0 (.agg #[.int .i64 0, .int .i64 0, .string ⟨#[]⟩, .string ⟨#[]⟩, .slice none 0 0, .int .i64 0]) 6 80 Try.underlying37 HI.out HZ0.out HZ1.out HZ2.out rfl (by decide) v' j _ rfl (HOWN.out.alloc _) ⟨w1.heap.size, 0, none⟩ 1 1 (ExC y' A1 c1) rfl rfl ?c4 ?c6 (by decide) ?c1 ?c2 ?c3 (w1.heap.size + 1) ?c5 ?_
                case c4 =>
                  intro q u hu
                  have had : (⟨w1.heap.size, 0, none⟩ : Addr).add q = ⟨w1.heap.size, q, none⟩ := by cases q <;> simp [Addr.add]
                  rw [had]
                  exact heap_cell q _ (heap_alloc_new w1 _) (by rw [List.getElem?_toArray]; exact hu)
                case c6 => intro u hu; exact (List.all_eq_true.1 (by simpa using exC_one y' A1 c1) u hu)
                case c1 => unfold maxLen; omega
                case c2 => omega
                case c3 => first | omega | (simp; omega)
                case c5 => simp
                intro g cap2 w2 hown2 hgrow hatg hg2
                have HBU3 : Hid (BuiltE w2 N (foldEs opF (s.conds.take (j + 1))) (.slice (some ⟨g, 0, none⟩) (j + 1) cap2)) := Lib.hid (by
                  rw [foldEs_snoc opF HYC.out, HYY.out]
                  exact BuiltE.snoc HCS.out HAT2.out hown2 (by rw [foldEs_len, List.length_take, Nat.min_eq_left (by rw [HNC.out]; omega)]) hgrow (hatg.imp id fun h => by rw [h]; simp))
                have hKa : Keep N G WN (w1.alloc (.cells (exA y'.op y'.n y'.name y'.field A1 y'.sub.length c1 y'.line) 39)) := HK1.out.below (below_new (Below.refl _ _) (Nat.le_refl _) _)
                have HK2 := Lib.hid (hKa.grown (HOWN.out.alloc _) hgrow)
                have hb2 : Below wo.heap.size wo w2 := below_grown HB1a.out hgrow (HOWN.out.alloc _) (by omega) HB1a.out.size
                have hG2 : w2.heap[G]? = some (.cells (stC s.op s.name y1 B1 b1 y2 B2 b2 v' (.slice ms.la s.labels.length ms.lk) (.slice ms.fa s.fields.length ms.fk) (.slice ms.ba s.blocks.length ms.bk) s.line) 63) := by
                  rw [hgrow.block G (by simp; omega) (fun e => by have := (HOWN.out.lt G e.symm).1; omega), heap_alloc_old _ _ (by omega)]
                  exact HG1.out
                have q4 : w2.cell? ⟨G, 14, none⟩ = some v' := heap_cell 14 _ hG2 rfl
                have qf : w2.frozen? ⟨G, 14, none⟩ = false := heap_free 14 hG2
                have HB2 := Lib.hid hb2
                have HG2 := Lib.hid hG2
                clear hown2 hgrow hatg hKa HAT2 HCS HOWN hb2 hG2
                refine hK.out _ _ (HSB.out _ HB2.out) (fun hHeld => ?_)
                clear hK K
                (try simp only [Act.put, List.setIfInBounds_toArray, List.set_cons_zero, List.set_cons_succ])
                refine oneH (i := 13) (by kernel_rfl) rfl (fun K hK => ?_)
                go_simp
                refine hK.out _ _ (HSB.out _ HB2.out) (fun hHeld => ?_)
                clear hK K
                (try simp only [Act.put, List.setIfInBounds_toArray, List.set_cons_zero, List.set_cons_succ])
                refine oneH (i := 14) (by kernel_rfl) rfl (fun K hK => ?_)
                go_simp
                have HB3 : Hid (Below wo.heap.size wo (w2.setCell ⟨G, 14, none⟩ (.slice (some ⟨g, 0, none⟩) (j + 1) cap2))) := Lib.hid (HB2.out.setCell (by show wo.heap.size ≤ G; omega) _)
                refine hK.out _ _ (HSB.out _ HB3.out) (fun hHeld => ?_)
                clear hK K
                (try simp only [Act.put, List.setIfInBounds_toArray, List.set_cons_zero, List.set_cons_succ])
                refine wpAnyH_done (by kernel_rfl) ?_ _
                (try simp only [Act.put, List.setIfInBounds_toArray, List.set_cons_zero, List.set_cons_succ])
                clear q4 qf k4
                have HG3 := Lib.hid (show (w2.setCell ⟨G, 14, none⟩ (.slice (some ⟨g, 0, none⟩) (j + 1) cap2)).heap[G]? = some (.cells (stC s.op s.name y1 B1 b1 y2 B2 b2 (.slice (some ⟨g, 0, none⟩) (j + 1) cap2) (.slice ms.la s.labels.length ms.lk) (.slice ms.fa s.fields.length ms.fk) (.slice ms.ba s.blocks.length ms.bk) s.line) 63) from cells_set (k := 14) (v := .slice (some ⟨g, 0, none⟩) (j + 1) cap2) HG2.out)
                have HBU4 := Lib.hid (HBU3.out.setCell (p := ⟨G, 14, none⟩) (by show G < N; omega) (.slice (some ⟨g, 0, none⟩) (j + 1) cap2))
                have HK3 := Lib.hid (HK2.out.set 14 (.slice (some ⟨g, 0, none⟩) (j + 1) cap2))
                go_wp2
                go_roundw
                case rel => exact ⟨j + 1, _, by omega, by go_num, HG3, HBU4, HB3, HK3⟩
                case measure => simp [intOf]; omega
          · obtain rfl : j = nc := by omega
            obtain ⟨zs, hzs⟩ : ∃ ys, foldEs opF s.conds = ys := ⟨_, rfl⟩
            have hbu := HBUE.out
            rw [List.take_of_length_le (by rw [HNC.out]; exact Nat.le_refl _), hzs] at hbu
            have hzl : zs.length = j := by rw [← hzs, foldEs_len, HNC.out]
            obtain ⟨A3, k3, rfl, hrow3⟩ := hbu.row (by rw [hzl]; exact hcb)
            have HZS := Lib.hid hzs
            have HPV0 : Hid (PV wr (oldP p H) (G + 1) s ms y1 y2 zs B1 B2 A3 b1 b2 k3) := by
              have hk := HKP.out
              have hmv : Moves (only WN (news (G + 1))) (only wr (news (G + 1))) := .onlyW (by have := HNW.out; omega) fun b hb hp => ⟨hp, by rw [news_iff] at hp; exact hk.blk b (by have := HNW.out; omega) (by omega)⟩
              have hmo : Moves (only wo (oldP p H)) (only wr (oldP p H)) := .onlyB HBO.out fun b _ h => h
              exact Lib.hid ⟨HP1.out.1.move hmv, HP1.out.2.move hmv, hrow3.move (news_mono (by omega)), HSVo.out.labels.move hmo, HSVo.out.fields.move hmo, HSVo.out.blocks.move hmo⟩
            have HGZ : Hid (wr.heap[G]? = some (.cells (stC s.op s.name y1 B1 b1 y2 B2 b2 (.slice A3 zs.length k3) (.slice ms.la s.labels.length ms.lk) (.slice ms.fa s.fields.length ms.fk) (.slice ms.ba s.blocks.length ms.bk) s.line) 63)) := HGC
            have t7 : wr.cell? ⟨G, 17, none⟩ = some (.slice ms.ba s.blocks.length ms.bk) := heap_cell 17 _ HGZ.out rfl
            have tf : wr.frozen? ⟨G, 17, none⟩ = false := heap_free 17 HGZ.out
            have hGz : G < wr.heap.size := by omega
            clear hbu hrow3 hzs hzl HGC HBUE HKP HP1 HGN HBN HKN hlt2 HI HZ0 HZ1 HZ2
            go_upto_region 13 with (fail)
            clear c14 d4
            go_upto_region 14 with (fail)
            refine wp_name fun WM hWM => ?_
            obtain ⟨M, hM⟩ : ∃ M, M = WM.heap.size := ⟨_, rfl⟩
            have HGM : Hid (WM.heap[G]? = some (.cells (stC s.op s.name y1 B1 b1 y2 B2 b2 (.slice A3 zs.length k3) (.slice ms.la s.labels.length ms.lk) (.slice ms.fa s.fields.length ms.fk) (.slice none 0 0) s.line) 63)) := Lib.hid (by rw [hWM.out]; exact cells_set HGZ.out)
            have HBM := Lib.hid (show Below wo.heap.size wo WM by rw [hWM.out]; exact HBO.out.setCell (by show wo.heap.size ≤ G; omega) _)
            have hGM : G + 1 ≤ M := by rw [hM, hWM.out]; simp; omega
            have HPV : Hid (PV WM (oldP p H) (G + 1) s ms y1 y2 zs B1 B2 A3 b1 b2 k3) := Lib.hid (HPV0.out.turn (by rw [hWM.out]; simp) fun b hb hp => by
              have hne : b ≠ G := by
                rcases hp with hp | hp
                · rw [oldP_iff] at hp
                  omega
                · omega
              rw [hWM.out, heap_setCell_other _ _ _ _ hne])
            have HKM : Hid (Keep M G WM WM) := Lib.hid ⟨by omega, fun _ _ _ => rfl⟩
            have HMW := Lib.hid hM
            clear hWM t7 tf hM HPV0 HGZ hGz HBO
            obtain ⟨i1, hi1, iz0, iz1, iz2⟩ := info_parts block_info
            have II := Lib.hid hi1
            have IZ0 := Lib.hid iz0
            have IZ1 := Lib.hid iz1
            have IZ2 := Lib.hid iz2
            clear hi1 iz0 iz1 iz2
            obtain ⟨nb, hnb⟩ : ∃ n, s.blocks.length = n := ⟨_, rfl⟩
            have HNB := Lib.hid hnb
            have hbl1 := HSVo.out.blocks.1
            have hbl2 := HSVo.out.blocks.2.1
            have hbl3 := HSVo.out.blocks.2.2.1
            rw [hnb] at hbl1 hbl3
            clear hnb
            have HC17 : Hid (∀ W', Below wo.heap.size wo W' → W'.cell? ⟨b, off + i * 19 + 17, none⟩ = some (.slice ms.ba nb ms.bk)) := Lib.hid (fun W' h => (h.cell (p := ⟨b, off + i * 19 + 17, none⟩) hbo).trans (by have := HRGo.out 17 _ rfl; rwa [HNB.out] at this))
            go_wp2_with fail
            go_loopw [7] (fun u wr => ∃ (j : Nat) (v' : Value), j ≤ nb ∧ u = .int .i64 j ∧ Hid (wr.heap[G]? = some (.cells (stC s.op s.name y1 B1 b1 y2 B2 b2 (.slice A3 zs.length k3) (.slice ms.la s.labels.length ms.lk) (.slice ms.fa s.fields.length ms.fk) v' s.line) 63)) ∧ Hid (Built BlockC 28 1 (oldP p H) wr M (foldBs opF (s.blocks.take j)) v') ∧ Hid (Below wo.heap.size wo wr) ∧ Hid (Keep M G WM wr)) (fun u _ => nb - (intOf u).toNat)
            case atStart => exact ⟨0, _, by omega, rfl, HGM, Lib.hid (by rw [List.take_zero, foldBs]; exact Built.nil _), HBM, HKM⟩
            case round =>
              obtain ⟨j, v', hj, rfl, HGC, HBUB, HBO, HKP⟩ := hrel
              have c14 := HC17.out _ HBO.out
              have d4 : wr.cell? ⟨G, 17, none⟩ = some v' := heap_cell 17 _ HGC.out rfl
              have hNs := HKP.out.size
              by_cases hlt2 : j < nb
              · obtain ⟨bc, oc, bl, cs5, hca, hbl, hyc, ⟨A6, k6, rfl, hr6⟩, hc5⟩ := RowOf.at HSVo.out.blocks (i := j) (by rw [HNB.out]; exact hlt2)
                rw [only_size] at hbl
                have hj0 : (0 : Int) ≤ (j : Int) ∧ (j : Int) < (nb : Int) := by omega
                have hdr : Below wr.heap.size wr wr.drew := Below.drew (Below.refl _ _)
                have HBD := Lib.hid (HBO.out.trans (hdr.mono HBO.out.size))
                have HBL := Lib.hid hyc
                have HR6 := Lib.hid (hr6.move (Moves.onlyB HBD.out fun b _ h => h))
                have HSB : Hid (∀ W', Below wo.heap.size wo W' → W'.cell? ⟨b, off + i * 19 + 17, none⟩ = some (.slice (some ⟨bc, oc, none⟩) nb ms.bk) ∧ W'.cell? ⟨bc, oc + j, none⟩ = some (.slice A6 bl.length k6)) := Lib.hid (fun W' hW' => ⟨by rw [← hca]; exact HC17.out _ hW', (hW'.cell (p := ⟨bc, oc + j, none⟩) hbl).trans (by have := hc5 0 (by omega); rw [Nat.mul_one, Nat.add_zero] at this; exact (only_cell this).2)⟩)
                rw [hca] at c14
                clear hyc hr6 hc5 hca
                obtain ⟨N, hNM⟩ : ∃ N, N = M := ⟨_, rfl⟩
                obtain ⟨WN, hWNM⟩ : ∃ X, X = WM := ⟨_, rfl⟩
                rw [← hNM] at hNs hGM
                rw [← hNM, ← hWNM] at HKP
                rw [← hNM] at HBUB
                go_wp2_with fail
                refine wp_region_held_drew (S := fun W' => W'.cell? ⟨b, off + i * 19 + 17, none⟩ = some (.slice (some ⟨bc, oc, none⟩) nb ms.bk) ∧ W'.cell? ⟨bc, oc + j, none⟩ = some (.slice A6 bl.length k6)) (by kernel_rfl) (HSB.out _ HBD.out) (fun hHeld => ?_)
                (try simp only [Act.put, List.setIfInBounds_toArray, List.set_cons_zero, List.set_cons_succ])
                (refine takeH (i := 0) (v := ?_) rfl (by kernel_rfl) (by kernel_rfl) (by kernel_rfl) (fun _ _ _ h => h) (Or.inl ⟨by first | kernel_rfl | rfl, ?_⟩) (by assumption) ?_; rotate_left; (focus (intro w' hSw; (try dsimp only at hSw); go_simp; try (with_reducible rfl))); (try simp only [Act.put, List.setIfInBounds_toArray, List.set_cons_zero, List.set_cons_succ]))
                (refine takeH (i := 2) (v := ?_) rfl (by kernel_rfl) (by kernel_rfl) (by kernel_rfl) (fun _ _ _ h => h) (Or.inl ⟨by first | kernel_rfl | rfl, ?_⟩) (by assumption) ?_; rotate_left; (focus (intro w' hSw; (try dsimp only at hSw); go_simp; try (with_reducible rfl))); (try simp only [Act.put, List.setIfInBounds_toArray, List.set_cons_zero, List.set_cons_succ]))
                (refine takeH (i := 3) (v := ?_) rfl (by kernel_rfl) (by kernel_rfl) (by kernel_rfl) (fun _ _ _ h => h) (Or.inl ⟨by first | kernel_rfl | rfl, ?_⟩) (by assumption) ?_; rotate_left; (focus (intro w' hSw; (try dsimp only at hSw); go_simp; try (with_reducible rfl))); (try simp only [Act.put, List.setIfInBounds_toArray, List.set_cons_zero, List.set_cons_succ]))
                (refine takeH (i := 4) (v := ?_) rfl (by kernel_rfl) (by kernel_rfl) (by kernel_rfl) (fun _ _ _ h => h) (Or.inl ⟨by first | kernel_rfl | rfl, ?_⟩) (by assumption) ?_; rotate_left; (focus (intro w' hSw; (try dsimp only at hSw); go_simp; try (with_reducible rfl))); (try simp only [Act.put, List.setIfInBounds_toArray, List.set_cons_zero, List.set_cons_succ]))
                (refine takeH (i := 5) (v := ?_) rfl (by kernel_rfl) (by kernel_rfl) (by kernel_rfl) (fun _ _ _ h => h) (Or.inl ⟨by first | kernel_rfl | rfl, ?_⟩) (by assumption) ?_; rotate_left; (focus (intro w' hSw; (try dsimp only at hSw); go_simp; try (with_reducible rfl))); (try simp only [Act.put, List.setIfInBounds_toArray, List.set_cons_zero, List.set_cons_succ]))
                (refine takeH (i := 6) (v := ?_) rfl (by kernel_rfl) (by kernel_rfl) (by kernel_rfl) (fun _ _ _ h => h) (Or.inl ⟨by first | kernel_rfl | rfl, ?_⟩) (by assumption) ?_; rotate_left; (focus (intro w' hSw; (try dsimp only at hSw); go_simp; try (with_reducible rfl))); (try simp only [Act.put, List.setIfInBounds_toArray, List.set_cons_zero, List.set_cons_succ]))
                (refine takeH (i := 7) (v := ?_) rfl (by kernel_rfl) (by kernel_rfl) (by kernel_rfl) (fun _ _ _ h => h) (Or.inl ⟨by first | kernel_rfl | rfl, ?_⟩) (by assumption) ?_; rotate_left; (focus (intro w' hSw; (try dsimp only at hSw); go_simp; try (with_reducible rfl))); (try simp only [Act.put, List.setIfInBounds_toArray, List.set_cons_zero, List.set_cons_succ]))
                (refine takeH (i := 8) (v := ?_) rfl (by kernel_rfl) (by kernel_rfl) (by kernel_rfl) (fun _ _ _ h => h) (Or.inl ⟨by first | kernel_rfl | rfl, ?_⟩) (by assumption) ?_; rotate_left; (focus (intro w' hSw; (try dsimp only at hSw); go_simp; try (with_reducible rfl))); (try simp only [Act.put, List.setIfInBounds_toArray, List.set_cons_zero, List.set_cons_succ]))
                (refine takeH (i := 9) (v := ?_) rfl (by kernel_rfl) (by kernel_rfl) (by kernel_rfl) (fun _ _ _ h => h) (Or.inl ⟨by first | kernel_rfl | rfl, ?_⟩) (by assumption) ?_; rotate_left; (focus (intro w' hSw; (try dsimp only at hSw); go_simp; try (with_reducible rfl))); (try simp only [Act.put, List.setIfInBounds_toArray, List.set_cons_zero, List.set_cons_succ]))
                refine twoH (i := 1) (j := 10) (by kernel_rfl) rfl rfl (fun K hK => ?_) (fun K hK => ?_)
                · go_simp
                  refine hK.out _ _ (HSB.out _ (by first | exact HB1a.out | exact HB1.out | exact HBD.out)) (fun hHeld => ?_)
                  clear hK K
                  (try simp only [Act.put, List.setIfInBounds_toArray, List.set_cons_zero, List.set_cons_succ])
                  refine oneH (i := 10) (by kernel_rfl) rfl (fun K hK => ?_)
                  go_simp
                  go_at_call 12
                  refine (HIH.out bl (by have := block_lt HY.out HBL.out; have := HSZ.out; omega) (HNG.out.parts.2.2.2 bl (List.mem_of_getElem? HBL.out)) (oldP p H) wr.drew A6 k6 HR6.out).mono ?_
                  rintro e w1 ⟨⟨A8, c8, rfl, hr8⟩, hb1⟩
                  obtain ⟨y', hy'⟩ : ∃ y', foldSs opF bl = y' := ⟨_, rfl⟩
                  rw [hy'] at hr8 ⊢
                  have hz1 : wr.heap.size ≤ w1.heap.size := hb1.size
                  have k4 := (hb1.cell (p := ⟨G, 17, none⟩) (by show G < wr.heap.size; omega)).trans d4
                  have lG1 : G < w1.heap.size := by have : wr.heap.size ≤ w1.heap.size := hz1; omega
                  have HB1 := Lib.hid (HBD.out.trans (hb1.mono HBD.out.size))
                  have HK1 := Lib.hid ((HKP.out.below hdr).below hb1)
                  have HG1 := Lib.hid ((hb1.block G (by show G < wr.heap.size; omega)).trans HGC.out)
                  obtain ⟨cs, hown, hcs⟩ := Built.below (Q := BlockC) (fun _ _ _ _ hm h => BlockC.move hm h) HBUB.out (hdr.trans (hb1.mono (Nat.le_refl _)))
                  rw [foldBs_len, List.length_take, Nat.min_eq_left (by rw [HNB.out]; omega)] at hown
                  have hb1a : Below w1.heap.size w1 (w1.alloc (.cells #[.slice A8 y'.length c8] 28)) := below_new (Below.refl _ _) (Nat.le_refl _) _
                  have hat2 : BlockC (only (w1.alloc (.cells #[.slice A8 y'.length c8] 28)) (orFree (oldP p H) N v')) y' [.slice A8 y'.length c8] := ⟨A8, c8, rfl, hr8.move (.onlyB hb1a fun b hb hp => by
                    rw [orNew_iff] at hp
                    rw [orFree_iff]
                    have hdz : wr.drew.heap.size = wr.heap.size := rfl
                    rcases hp with ⟨h1, h2⟩ | h1
                    · left
                      have h2' := h2
                      rw [oldP_iff] at h2'
                      exact ⟨by omega, h2⟩
                    · refine .inr ⟨by omega, fun e => ?_⟩
                      obtain ⟨cs0, ho0, -⟩ := HBUB.out
                      have := (ho0.lt b e.symm).2
                      omega)⟩
                  have HAT2 := Lib.hid hat2
                  have HCS := Lib.hid (hcs.mono fun z c hz => BlockC.move (.onlyB hb1a fun b _ h => h) hz)
                  have HOWN := Lib.hid hown
                  have HYY := Lib.hid hy'
                  clear hr8 hat2 hcs hown hb1 hb1a hy'
                  have HB1a : Hid (Below wo.heap.size wo (w1.alloc (.cells #[.slice A8 y'.length c8] 28))) := Lib.hid (below_new HB1.out (Nat.le_refl _) _)
                  refine hK.out _ _ (HSB.out _ HB1.out) (fun hHeld => ?_)
                  clear hK K
                  (try simp only [Act.put, List.setIfInBounds_toArray, List.set_cons_zero, List.set_cons_succ])
                  refine oneH (i := 11) (by kernel_rfl) rfl (fun K hK => ?_)
                  go_simp
                  refine hK.out _ (w1.alloc (.cells #[.slice A8 y'.length c8] 28)) (HSB.out _ HB1a.out) (fun hHeld => ?_)
                  clear hK K
                  (try simp only [Act.put, List.setIfInBounds_toArray, List.set_cons_zero, List.set_cons_succ])
                  refine oneH (i := 12) (by kernel_rfl) rfl (fun K hK => ?_)
                  refine step_append_lies _ rfl (.tmp 63) (.tmp 73) 61 rfl N 28 i1 (.slice none 0 0) 1 24 Try.underlying61 II.out IZ0.out IZ1.out IZ2.out rfl (by decide) v' j _ rfl (HOWN.out.alloc _) ⟨w1.heap.size, 0, none⟩ 1 1 [.slice A8 y'.length c8] rfl rfl ?c4 ?c6 (by decide) ?c1 ?c2 ?c3 (w1.heap.size + 1) ?c5 ?_
                  case c4 =>
                    intro q u hu
                    have had : (⟨w1.heap.size, 0, none⟩ : Addr).add q = ⟨w1.heap.size, q, none⟩ := by cases q <;> simp [Addr.add]
                    rw [had]
                    exact heap_cell q _ (heap_alloc_new w1 _) (by rw [List.getElem?_toArray]; exact hu)
                  case c6 => exact one_cell _ rfl
                  case c1 => unfold maxLen; omega
                  case c2 => omega
                  case c3 => first | omega | (simp; omega)
                  case c5 => simp
                  intro g cap2 w2 hown2 hgrow hatg hg2
                  have HBU3 : Hid (Built BlockC 28 1 (oldP p H) w2 N (foldBs opF (s.blocks.take (j + 1))) (.slice (some ⟨g, 0, none⟩) (j + 1) cap2)) := Lib.hid (by
                    rw [foldBs_snoc opF HBL.out, HYY.out]
                    exact Built.snoc (Q := BlockC) (fun _ _ _ _ hm h => BlockC.move hm h) HCS.out HAT2.out rfl hown2 (by rw [foldBs_len, List.length_take, Nat.min_eq_left (by rw [HNB.out]; omega)]) hgrow (hatg.imp id fun h => by rw [h]; simp) (fun b hb => (HOWN.out.lt b hb).1) (by simp; omega))
                  have hKa : Keep N G WN (w1.alloc (.cells #[.slice A8 y'.length c8] 28)) := HK1.out.below (below_new (Below.refl _ _) (Nat.le_refl _) _)
                  have HK2 := Lib.hid (hKa.grown (HOWN.out.alloc _) hgrow)
                  have hb2 : Below wo.heap.size wo w2 := below_grown HB1a.out hgrow (HOWN.out.alloc _) (by omega) HB1a.out.size
                  have hG2 : w2.heap[G]? = some (.cells (stC s.op s.name y1 B1 b1 y2 B2 b2 (.slice A3 zs.length k3) (.slice ms.la s.labels.length ms.lk) (.slice ms.fa s.fields.length ms.fk) v' s.line) 63) := by
                    rw [hgrow.block G (by simp; omega) (fun e => by have := (HOWN.out.lt G e.symm).1; omega), heap_alloc_old _ _ (by omega)]
                    exact HG1.out
                  have q4 : w2.cell? ⟨G, 17, none⟩ = some v' := heap_cell 17 _ hG2 rfl
                  have qf : w2.frozen? ⟨G, 17, none⟩ = false := heap_free 17 hG2
                  have HB2 := Lib.hid hb2
                  have HG2 := Lib.hid hG2
                  clear hown2 hgrow hatg hKa HAT2 HCS HOWN hb2 hG2
                  refine hK.out _ _ (HSB.out _ HB2.out) (fun hHeld => ?_)
                  clear hK K
                  (try simp only [Act.put, List.setIfInBounds_toArray, List.set_cons_zero, List.set_cons_succ])
                  refine oneH (i := 13) (by kernel_rfl) rfl (fun K hK => ?_)
                  go_simp
                  refine hK.out _ _ (HSB.out _ HB2.out) (fun hHeld => ?_)
                  clear hK K
                  (try simp only [Act.put, List.setIfInBounds_toArray, List.set_cons_zero, List.set_cons_succ])
                  refine oneH (i := 14) (by kernel_rfl) rfl (fun K hK => ?_)
                  go_simp
                  have HB3 : Hid (Below wo.heap.size wo (w2.setCell ⟨G, 17, none⟩ (.slice (some ⟨g, 0, none⟩) (j + 1) cap2))) := Lib.hid (HB2.out.setCell (by show wo.heap.size ≤ G; omega) _)
                  refine hK.out _ _ (HSB.out _ HB3.out) (fun hHeld => ?_)
                  clear hK K
                  (try simp only [Act.put, List.setIfInBounds_toArray, List.set_cons_zero, List.set_cons_succ])
                  refine wpAnyH_done (by kernel_rfl) ?_ _
                  (try simp only [Act.put, List.setIfInBounds_toArray, List.set_cons_zero, List.set_cons_succ])
                  clear q4 qf k4
                  have HG3 := Lib.hid (show (w2.setCell ⟨G, 17, none⟩ (.slice (some ⟨g, 0, none⟩) (j + 1) cap2)).heap[G]? = some (.cells (stC s.op s.name y1 B1 b1 y2 B2 b2 (.slice A3 zs.length k3) (.slice ms.la s.labels.length ms.lk) (.slice ms.fa s.fields.length ms.fk) (.slice (some ⟨g, 0, none⟩) (j + 1) cap2) s.line) 63) from cells_set (k := 17) (v := .slice (some ⟨g, 0, none⟩) (j + 1) cap2) HG2.out)
                  have HBU4 := Lib.hid (Built.setCell (Q := BlockC) (fun _ _ _ _ hm h => BlockC.move hm h) HBU3.out (g := G) (by omega) (by cases h : oldP p H G; rfl; rw [oldP_iff] at h; omega) 17 (.slice (some ⟨g, 0, none⟩) (j + 1) cap2))
                  have HK3 := Lib.hid (HK2.out.set 17 (.slice (some ⟨g, 0, none⟩) (j + 1) cap2))
                  go_wp2
                  go_roundw
                  case rel => exact ⟨j + 1, _, by omega, by go_num, HG3, by rw [← hNM]; exact HBU4, HB3, by rw [← hNM, ← hWNM]; exact HK3⟩
                  case measure => simp [intOf]; omega
                · go_simp
                  go_at_call 12
                  refine (HIH.out bl (by have := block_lt HY.out HBL.out; have := HSZ.out; omega) (HNG.out.parts.2.2.2 bl (List.mem_of_getElem? HBL.out)) (oldP p H) wr.drew A6 k6 HR6.out).mono ?_
                  rintro e w1 ⟨⟨A8, c8, rfl, hr8⟩, hb1⟩
                  obtain ⟨y', hy'⟩ : ∃ y', foldSs opF bl = y' := ⟨_, rfl⟩
                  rw [hy'] at hr8 ⊢
                  have hz1 : wr.heap.size ≤ w1.heap.size := hb1.size
                  have k4 := (hb1.cell (p := ⟨G, 17, none⟩) (by show G < wr.heap.size; omega)).trans d4
                  have lG1 : G < w1.heap.size := by have : wr.heap.size ≤ w1.heap.size := hz1; omega
                  have HB1 := Lib.hid (HBD.out.trans (hb1.mono HBD.out.size))
                  have HK1 := Lib.hid ((HKP.out.below hdr).below hb1)
                  have HG1 := Lib.hid ((hb1.block G (by show G < wr.heap.size; omega)).trans HGC.out)
                  obtain ⟨cs, hown, hcs⟩ := Built.below (Q := BlockC) (fun _ _ _ _ hm h => BlockC.move hm h) HBUB.out (hdr.trans (hb1.mono (Nat.le_refl _)))
                  rw [foldBs_len, List.length_take, Nat.min_eq_left (by rw [HNB.out]; omega)] at hown
                  have hb1a : Below w1.heap.size w1 (w1.alloc (.cells #[.slice A8 y'.length c8] 28)) := below_new (Below.refl _ _) (Nat.le_refl _) _
                  have hat2 : BlockC (only (w1.alloc (.cells #[.slice A8 y'.length c8] 28)) (orFree (oldP p H) N v')) y' [.slice A8 y'.length c8] := ⟨A8, c8, rfl, hr8.move (.onlyB hb1a fun b hb hp => by
                    rw [orNew_iff] at hp
                    rw [orFree_iff]
                    have hdz : wr.drew.heap.size = wr.heap.size := rfl
                    rcases hp with ⟨h1, h2⟩ | h1
                    · left
                      have h2' := h2
                      rw [oldP_iff] at h2'
                      exact ⟨by omega, h2⟩
                    · refine .inr ⟨by omega, fun e => ?_⟩
                      obtain ⟨cs0, ho0, -⟩ := HBUB.out
                      have := (ho0.lt b e.symm).2
                      omega)⟩
                  have HAT2 := Lib.hid hat2
                  have HCS := Lib.hid (hcs.mono fun z c hz => BlockC.move (.onlyB hb1a fun b _ h => h) hz)
                  have HOWN := Lib.hid hown
                  have HYY := Lib.hid hy'
                  clear hr8 hat2 hcs hown hb1 hb1a hy'
                  have HB1a : Hid (Below wo.heap.size wo (w1.alloc (.cells #[.slice A8 y'.length c8] 28))) := Lib.hid (below_new HB1.out (Nat.le_refl _) _)
                  refine hK.out _ _ (HSB.out _ HB1.out) (fun hHeld => ?_)
                  clear hK K
                  (try simp only [Act.put, List.setIfInBounds_toArray, List.set_cons_zero, List.set_cons_succ])
                  refine twoH (i := 1) (j := 11) (by kernel_rfl) rfl rfl (fun K hK => ?_) (fun K hK => ?_)
                  · go_simp
                    refine hK.out _ _ (HSB.out _ (by first | exact HB1a.out | exact HB1.out | exact HBD.out)) (fun hHeld => ?_)
                    clear hK K
                    (try simp only [Act.put, List.setIfInBounds_toArray, List.set_cons_zero, List.set_cons_succ])
                    refine oneH (i := 11) (by kernel_rfl) rfl (fun K hK => ?_)
                    go_simp
                    refine hK.out _ (w1.alloc (.cells #[.slice A8 y'.length c8] 28)) (HSB.out _ HB1a.out) (fun hHeld => ?_)
                    clear hK K
                    (try simp only [Act.put, List.setIfInBounds_toArray, List.set_cons_zero, List.set_cons_succ])
                    refine oneH (i := 12) (by kernel_rfl) rfl (fun K hK => ?_)
                    refine step_append_lies _ rfl (.tmp 63) (.tmp 73) 61 rfl N 28 i1 (.slice none 0 0) 1 24 Try.underlying61 II.out IZ0.out IZ1.out IZ2.out rfl (by decide) v' j _ rfl (HOWN.out.alloc _) ⟨w1.heap.size, 0, none⟩ 1 1 [.slice A8 y'.length c8] rfl rfl ?c4 ?c6 (by decide) ?c1 ?c2 ?c3 (w1.heap.size + 1) ?c5 ?_
                    case c4 =>
                      intro q u hu
                      have had : (⟨w1.heap.size, 0, none⟩ : Addr).add q = ⟨w1.heap.size, q, none⟩ := by cases q <;> simp [Addr.add]
                      rw [had]
                      exact heap_cell q _ (heap_alloc_new w1 _) (by rw [List.getElem?_toArray]; exact hu)
                    case c6 => exact one_cell _ rfl
                    case c1 => unfold maxLen; omega
                    case c2 => omega
                    case c3 => first | omega | (simp; omega)
                    case c5 => simp
                    intro g cap2 w2 hown2 hgrow hatg hg2
                    have HBU3 : Hid (Built BlockC 28 1 (oldP p H) w2 N (foldBs opF (s.blocks.take (j + 1))) (.slice (some ⟨g, 0, none⟩) (j + 1) cap2)) := Lib.hid (by
                      rw [foldBs_snoc opF HBL.out, HYY.out]
                      exact Built.snoc (Q := BlockC) (fun _ _ _ _ hm h => BlockC.move hm h) HCS.out HAT2.out rfl hown2 (by rw [foldBs_len, List.length_take, Nat.min_eq_left (by rw [HNB.out]; omega)]) hgrow (hatg.imp id fun h => by rw [h]; simp) (fun b hb => (HOWN.out.lt b hb).1) (by simp; omega))
                    have hKa : Keep N G WN (w1.alloc (.cells #[.slice A8 y'.length c8] 28)) := HK1.out.below (below_new (Below.refl _ _) (Nat.le_refl _) _)
                    have HK2 := Lib.hid (hKa.grown (HOWN.out.alloc _) hgrow)
                    have hb2 : Below wo.heap.size wo w2 := below_grown HB1a.out hgrow (HOWN.out.alloc _) (by omega) HB1a.out.size
                    have hG2 : w2.heap[G]? = some (.cells (stC s.op s.name y1 B1 b1 y2 B2 b2 (.slice A3 zs.length k3) (.slice ms.la s.labels.length ms.lk) (.slice ms.fa s.fields.length ms.fk) v' s.line) 63) := by
                      rw [hgrow.block G (by simp; omega) (fun e => by have := (HOWN.out.lt G e.symm).1; omega), heap_alloc_old _ _ (by omega)]
                      exact HG1.out
                    have q4 : w2.cell? ⟨G, 17, none⟩ = some v' := heap_cell 17 _ hG2 rfl
                    have qf : w2.frozen? ⟨G, 17, none⟩ = false := heap_free 17 hG2
                    have HB2 := Lib.hid hb2
                    have HG2 := Lib.hid hG2
                    clear hown2 hgrow hatg hKa HAT2 HCS HOWN hb2 hG2
                    refine hK.out _ _ (HSB.out _ HB2.out) (fun hHeld => ?_)
                    clear hK K
                    (try simp only [Act.put, List.setIfInBounds_toArray, List.set_cons_zero, List.set_cons_succ])
                    refine oneH (i := 13) (by kernel_rfl) rfl (fun K hK => ?_)
                    go_simp
                    refine hK.out _ _ (HSB.out _ HB2.out) (fun hHeld => ?_)
                    clear hK K
                    (try simp only [Act.put, List.setIfInBounds_toArray, List.set_cons_zero, List.set_cons_succ])
                    refine oneH (i := 14) (by kernel_rfl) rfl (fun K hK => ?_)
                    go_simp
                    have HB3 : Hid (Below wo.heap.size wo (w2.setCell ⟨G, 17, none⟩ (.slice (some ⟨g, 0, none⟩) (j + 1) cap2))) := Lib.hid (HB2.out.setCell (by show wo.heap.size ≤ G; omega) _)
                    refine hK.out _ _ (HSB.out _ HB3.out) (fun hHeld => ?_)
                    clear hK K
                    (try simp only [Act.put, List.setIfInBounds_toArray, List.set_cons_zero, List.set_cons_succ])
                    refine wpAnyH_done (by kernel_rfl) ?_ _
                    (try simp only [Act.put, List.setIfInBounds_toArray, List.set_cons_zero, List.set_cons_succ])
                    clear q4 qf k4
                    have HG3 := Lib.hid (show (w2.setCell ⟨G, 17, none⟩ (.slice (some ⟨g, 0, none⟩) (j + 1) cap2)).heap[G]? = some (.cells (stC s.op s.name y1 B1 b1 y2 B2 b2 (.slice A3 zs.length k3) (.slice ms.la s.labels.length ms.lk) (.slice ms.fa s.fields.length ms.fk) (.slice (some ⟨g, 0, none⟩) (j + 1) cap2) s.line) 63) from cells_set (k := 17) (v := .slice (some ⟨g, 0, none⟩) (j + 1) cap2) HG2.out)
                    have HBU4 := Lib.hid (Built.setCell (Q := BlockC) (fun _ _ _ _ hm h => BlockC.move hm h) HBU3.out (g := G) (by omega) (by cases h : oldP p H G; rfl; rw [oldP_iff] at h; omega) 17 (.slice (some ⟨g, 0, none⟩) (j + 1) cap2))
                    have HK3 := Lib.hid (HK2.out.set 17 (.slice (some ⟨g, 0, none⟩) (j + 1) cap2))
                    go_wp2
                    go_roundw
                    case rel => exact ⟨j + 1, _, by omega, by go_num, HG3, by rw [← hNM]; exact HBU4, HB3, by rw [← hNM, ← hWNM]; exact HK3⟩
                    case measure => simp [intOf]; omega
                  · go_simp
                    refine hK.out _ (w1.alloc (.cells #[.slice A8 y'.length c8] 28)) (HSB.out _ HB1a.out) (fun hHeld => ?_)
                    clear hK K
                    (try simp only [Act.put, List.setIfInBounds_toArray, List.set_cons_zero, List.set_cons_succ])
                    refine oneH (i := 1) (by kernel_rfl) rfl (fun K hK => ?_)
                    go_simp
                    refine hK.out _ _ (HSB.out _ (by first | exact HB1a.out | exact HB1.out | exact HBD.out)) (fun hHeld => ?_)
                    clear hK K
                    (try simp only [Act.put, List.setIfInBounds_toArray, List.set_cons_zero, List.set_cons_succ])
                    refine oneH (i := 12) (by kernel_rfl) rfl (fun K hK => ?_)
                    refine step_append_lies _ rfl (.tmp 63) (.tmp 73) 61 rfl N 28 i1 (.slice none 0 0) 1 24 Try.underlying61 II.out IZ0.out IZ1.out IZ2.out rfl (by decide) v' j _ rfl (HOWN.out.alloc _) ⟨w1.heap.size, 0, none⟩ 1 1 [.slice A8 y'.length c8] rfl rfl ?c4 ?c6 (by decide) ?c1 ?c2 ?c3 (w1.heap.size + 1) ?c5 ?_
                    case c4 =>
                      intro q u hu
                      have had : (⟨w1.heap.size, 0, none⟩ : Addr).add q = ⟨w1.heap.size, q, none⟩ := by cases q <;> simp [Addr.add]
                      rw [had]
                      exact heap_cell q _ (heap_alloc_new w1 _) (by rw [List.getElem?_toArray]; exact hu)
                    case c6 => exact one_cell _ rfl
                    case c1 => unfold maxLen; omega
                    case c2 => omega
                    case c3 => first | omega | (simp; omega)
                    case c5 => simp
                    intro g cap2 w2 hown2 hgrow hatg hg2
                    have HBU3 : Hid (Built BlockC 28 1 (oldP p H) w2 N (foldBs opF (s.blocks.take (j + 1))) (.slice (some ⟨g, 0, none⟩) (j + 1) cap2)) := Lib.hid (by
                      rw [foldBs_snoc opF HBL.out, HYY.out]
                      exact Built.snoc (Q := BlockC) (fun _ _ _ _ hm h => BlockC.move hm h) HCS.out HAT2.out rfl hown2 (by rw [foldBs_len, List.length_take, Nat.min_eq_left (by rw [HNB.out]; omega)]) hgrow (hatg.imp id fun h => by rw [h]; simp) (fun b hb => (HOWN.out.lt b hb).1) (by simp; omega))
                    have hKa : Keep N G WN (w1.alloc (.cells #[.slice A8 y'.length c8] 28)) := HK1.out.below (below_new (Below.refl _ _) (Nat.le_refl _) _)
                    have HK2 := Lib.hid (hKa.grown (HOWN.out.alloc _) hgrow)
                    have hb2 : Below wo.heap.size wo w2 := below_grown HB1a.out hgrow (HOWN.out.alloc _) (by omega) HB1a.out.size
                    have hG2 : w2.heap[G]? = some (.cells (stC s.op s.name y1 B1 b1 y2 B2 b2 (.slice A3 zs.length k3) (.slice ms.la s.labels.length ms.lk) (.slice ms.fa s.fields.length ms.fk) v' s.line) 63) := by
                      rw [hgrow.block G (by simp; omega) (fun e => by have := (HOWN.out.lt G e.symm).1; omega), heap_alloc_old _ _ (by omega)]
                      exact HG1.out
                    have q4 : w2.cell? ⟨G, 17, none⟩ = some v' := heap_cell 17 _ hG2 rfl
                    have qf : w2.frozen? ⟨G, 17, none⟩ = false := heap_free 17 hG2
                    have HB2 := Lib.hid hb2
                    have HG2 := Lib.hid hG2
                    clear hown2 hgrow hatg hKa HAT2 HCS HOWN hb2 hG2
                    refine hK.out _ _ (HSB.out _ HB2.out) (fun hHeld => ?_)
                    clear hK K
                    (try simp only [Act.put, List.setIfInBounds_toArray, List.set_cons_zero, List.set_cons_succ])
                    refine oneH (i := 13) (by kernel_rfl) rfl (fun K hK => ?_)
                    go_simp
                    refine hK.out _ _ (HSB.out _ HB2.out) (fun hHeld => ?_)
                    clear hK K
                    (try simp only [Act.put, List.setIfInBounds_toArray, List.set_cons_zero, List.set_cons_succ])
                    refine oneH (i := 14) (by kernel_rfl) rfl (fun K hK => ?_)
                    go_simp
                    have HB3 : Hid (Below wo.heap.size wo (w2.setCell ⟨G, 17, none⟩ (.slice (some ⟨g, 0, none⟩) (j + 1) cap2))) := Lib.hid (HB2.out.setCell (by show wo.heap.size ≤ G; omega) _)
                    refine hK.out _ _ (HSB.out _ HB3.out) (fun hHeld => ?_)
                    clear hK K
                    (try simp only [Act.put, List.setIfInBounds_toArray, List.set_cons_zero, List.set_cons_succ])
                    refine wpAnyH_done (by kernel_rfl) ?_ _
                    (try simp only [Act.put, List.setIfInBounds_toArray, List.set_cons_zero, List.set_cons_succ])
                    clear q4 qf k4
                    have HG3 := Lib.hid (show (w2.setCell ⟨G, 17, none⟩ (.slice (some ⟨g, 0, none⟩) (j + 1) cap2)).heap[G]? = some (.cells (stC s.op s.name y1 B1 b1 y2 B2 b2 (.slice A3 zs.length k3) (.slice ms.la s.labels.length ms.lk) (.slice ms.fa s.fields.length ms.fk) (.slice (some ⟨g, 0, none⟩) (j + 1) cap2) s.line) 63) from cells_set (k := 17) (v := .slice (some ⟨g, 0, none⟩) (j + 1) cap2) HG2.out)
                    have HBU4 := Lib.hid (Built.setCell (Q := BlockC) (fun _ _ _ _ hm h => BlockC.move hm h) HBU3.out (g := G) (by omega) (by cases h : oldP p H G; rfl; rw [oldP_iff] at h; omega) 17 (.slice (some ⟨g, 0, none⟩) (j + 1) cap2))
                    have HK3 := Lib.hid (HK2.out.set 17 (.slice (some ⟨g, 0, none⟩) (j + 1) cap2))
                    go_wp2
                    go_roundw
                    case rel => exact ⟨j + 1, _, by omega, by go_num, HG3, by rw [← hNM]; exact HBU4, HB3, by rw [← hNM, ← hWNM]; exact HK3⟩
                    case measure => simp [intOf]; omega
              · obtain rfl : j = nb := by omega
                have hbu := HBUB.out
                rw [List.take_of_length_le (by rw [HNB.out]; exact Nat.le_refl _)] at hbu
                obtain ⟨bs, hbs'⟩ : ∃ y', foldBs opF s.blocks = y' := ⟨_, rfl⟩
                rw [hbs'] at hbu
                have hbsl : bs.length = j := by rw [← hbs', foldBs_len, HNB.out]
                obtain ⟨A7, c7, rfl, hrow7⟩ := Built.row (Q := BlockC) (bytes := 24) (fun _ _ _ _ hm h => BlockC.move hm h) hbu (by rw [hbsl]; exact hbl3) (by decide)
                have HR7 := Lib.hid hrow7
                have HBS := Lib.hid hbs'
                have HPVq : Hid (PV wr (oldP p H) (G + 1) s ms y1 y2 zs B1 B2 A3 b1 b2 k3) := Lib.hid (HPV.out.turn (by have := HMW.out; omega) fun b hb hp => HKP.out.blk b (by have := HMW.out; omega) (by
                  rcases hp with hp | hp
                  · rw [oldP_iff] at hp
                    omega
                  · omega))
                have HGZ : Hid (wr.heap[G]? = some (.cells (stC s.op s.name y1 B1 b1 y2 B2 b2 (.slice A3 zs.length k3) (.slice ms.la s.labels.length ms.lk) (.slice ms.fa s.fields.length ms.fk) (.slice A7 bs.length c7) s.line) 63)) := HGC
                have hsm : StmAt (only (wr.alloc (.cells (stC s.op s.name y1 B1 b1 y2 B2 b2 (.slice A3 zs.length k3) (.slice ms.la s.labels.length ms.lk) (.slice ms.fa s.fields.length ms.fk) (.slice A7 bs.length c7) s.line) 63)) (orFree p H vo)) (foldS opF s) ((stC s.op s.name y1 B1 b1 y2 B2 b2 (.slice A3 zs.length k3) (.slice ms.la s.labels.length ms.lk) (.slice ms.fa s.fields.length ms.fk) (.slice A7 bs.length c7) s.line)).toList := by
                  have hown : ∀ b, G + 1 ≤ b → some b ≠ vo.ownBlock := fun b hb e => by
                    obtain ⟨cs0, ho0, -⟩ := HBU'.out
                    have := (ho0.lt b e.symm).2
                    omega
                  have m1 : Moves (only wr (news (G + 1))) (only (wr.alloc (.cells (stC s.op s.name y1 B1 b1 y2 B2 b2 (.slice A3 zs.length k3) (.slice ms.la s.labels.length ms.lk) (.slice ms.fa s.fields.length ms.fk) (.slice A7 bs.length c7) s.line) 63)) (orFree p H vo)) := .onlyW (by simp) fun b hl hp => by
                    rw [news_iff] at hp
                    exact ⟨by rw [orFree_iff]; exact .inr ⟨by omega, hown b hp⟩, heap_alloc_old _ _ (by omega)⟩
                  have m2 : Moves (only wr (oldP p H)) (only (wr.alloc (.cells (stC s.op s.name y1 B1 b1 y2 B2 b2 (.slice A3 zs.length k3) (.slice ms.la s.labels.length ms.lk) (.slice ms.fa s.fields.length ms.fk) (.slice A7 bs.length c7) s.line) 63)) (orFree p H vo)) := .onlyW (by simp) fun b hl hp => by
                    rw [oldP_iff] at hp
                    exact ⟨by rw [orFree_iff]; exact .inl hp, heap_alloc_old _ _ (by omega)⟩
                  have m3 : Moves (only wr (orNew (oldP p H) M)) (only (wr.alloc (.cells (stC s.op s.name y1 B1 b1 y2 B2 b2 (.slice A3 zs.length k3) (.slice ms.la s.labels.length ms.lk) (.slice ms.fa s.fields.length ms.fk) (.slice A7 bs.length c7) s.line) 63)) (orFree p H vo)) := .onlyW (by simp) fun b hl hp => by
                    rw [orNew_iff, oldP_iff] at hp
                    rw [orFree_iff, heap_alloc_old _ _ (by omega)]
                    rcases hp with ⟨-, h⟩ | h
                    · exact ⟨.inl h, rfl⟩
                    · exact ⟨.inr ⟨by omega, hown b (by omega)⟩, rfl⟩
                  rw [foldS_eq, HY3.out, HY4.out, HZS.out, HBS.out]
                  exact StmAt.of (name := s.name) HSVo.out.op HSVo.out.line (HPVq.out.dst.move m1) (HPVq.out.src.move m1) (HPVq.out.conds.move m1) (HPVq.out.labels.move m2) (HPVq.out.fields.move m2) (RowB.move m3 HR7.out)
                obtain ⟨cs, hown, hcs⟩ := Built.below (Q := StmAt) (fun _ _ _ _ hm h => StmAt.move hm h) HBU'.out HBO.out
                rw [foldSs_len, List.length_take, Nat.min_eq_left (by rw [HM.out]; omega)] at hown
                have HSM := Lib.hid hsm
                have HOWN := Lib.hid hown
                have HCS : Hid (CellsOf (StmAt (only (wr.alloc (.cells (stC s.op s.name y1 B1 b1 y2 B2 b2 (.slice A3 zs.length k3) (.slice ms.la s.labels.length ms.lk) (.slice ms.fa s.fields.length ms.fk) (.slice A7 bs.length c7) s.line) 63)) (orFree p H vo))) 19 (foldSs opF (xs.take i)) cs) := Lib.hid (hcs.mono fun z c hz => StmAt.move (.onlyB (below_new (Below.refl _ _) (Nat.le_refl _) _) fun b _ h => h) hz)
                obtain ⟨i2, zz, hi2, hzz, hzs, jz1, jz2⟩ := stmt_parts
                have JI := Lib.hid hi2
                have JZ0 := Lib.hid hzz
                have JZS := Lib.hid hzs
                have JZ1 := Lib.hid jz1
                have JZ2 := Lib.hid jz2
                have HB7 := Lib.hid (HBR.out.trans (HBO.out.mono HBR.out.size))
                have hzB := HB7.out.size
                have hGz : G < wr.heap.size := by omega
                clear hi2 jz1 jz2 hzz hzs hsm hown hcs hbu hbs' hrow7 hbsl HGC HBUB HBO HKP HR7 HPVq hlt2 HPV
                go_upto_region 18 with (fail)
                clear c14 d4
                have HGX : Hid (wr.heap[G]? = some (.cells #[.int .i64 s.op, .string s.name, .int .i64 y1.op, .int .i64 y1.n, .string y1.name, .string y1.field, .slice B1 y1.sub.length b1, .int .i64 y1.line, .int .i64 y2.op, .int .i64 y2.n, .string y2.name, .string y2.field, .slice B2 y2.sub.length b2, .int .i64 y2.line, .slice A3 zs.length k3, .slice ms.la s.labels.length ms.lk, .slice ms.fa s.fields.length ms.fk, .slice A7 bs.length c7, .int .i64 s.line] 63)) := HGZ
                go_wp2_with (first | refine wpList_load_row rfl 63 _ rfl G rfl 63 #[.int .i64 s.op, .string s.name, .int .i64 y1.op, .int .i64 y1.n, .string y1.name, .string y1.field, .slice B1 y1.sub.length b1, .int .i64 y1.line, .int .i64 y2.op, .int .i64 y2.n, .string y2.name, .string y2.field, .slice B2 y2.sub.length b2, .int .i64 y2.line, .slice A3 zs.length k3, .slice ms.la s.labels.length ms.lk, .slice ms.fa s.fields.length ms.fk, .slice A7 bs.length c7, .int .i64 s.line] (0, 0) _ HGX.out Try.underlying63 rfl stmt_size ?_ | (at_builtin; refine wpList_append_lies _ rfl _ _ 28 rfl H 63 i2 zz 19 288 Try.underlying28 JI.out JZ0.out JZ1.out JZ2.out JZS.out (by decide) _ i _ rfl (HOWN.out.alloc _) ⟨wr.heap.size, 0, none⟩ 1 1 [.int .i64 s.op, .string s.name, .int .i64 y1.op, .int .i64 y1.n, .string y1.name, .string y1.field, .slice B1 y1.sub.length b1, .int .i64 y1.line, .int .i64 y2.op, .int .i64 y2.n, .string y2.name, .string y2.field, .slice B2 y2.sub.length b2, .int .i64 y2.line, .slice A3 zs.length k3, .slice ms.la s.labels.length ms.lk, .slice ms.fa s.fields.length ms.fk, .slice A7 bs.length c7, .int .i64 s.line] rfl rfl ?c24 ?c26 (by decide) ?c21 ?c22 ?c23 (wr.heap.size + 1) ?c25 ?_))
                case c24 =>
                  intro q u hu
                  have had : (⟨wr.heap.size, 0, none⟩ : Addr).add q = ⟨wr.heap.size, q, none⟩ := by cases q <;> simp [Addr.add]
                  rw [had]
                  exact heap_cell q _ (heap_alloc_new wr _) (by rw [List.getElem?_toArray]; exact hu)
                case c26 => intro u hu; exact (List.all_eq_true.1 (by have h := stC_one (op := s.op) (nm := s.name) (d := y1) (A1 := B1) (k1 := b1) (e := y2) (A2 := B2) (k2 := b2) (ln := s.line) (q1 := A3) (n1 := zs.length) (c1 := k3) (q2 := ms.la) (n2 := s.labels.length) (c2 := ms.lk) (q3 := ms.fa) (n3 := s.fields.length) (c3 := ms.fk) (q4 := A7) (n4 := bs.length) (c4 := c7); rw [← Array.all_toList] at h; exact h) u hu)
                case c21 => unfold maxLen; omega
                case c22 => omega
                case c23 => first | omega | (simp; omega)
                case c25 => simp
                intro g cap2 w2 hown2 hgrow hatg hg2
                have HBN2 : Hid (Built StmAt 63 19 p w2 H (foldSs opF (xs.take (i + 1))) (.slice (some ⟨g, 0, none⟩) (i + 1) cap2)) := Lib.hid (by
                  rw [foldSs_snoc opF HY.out]
                  exact Built.snoc (Q := StmAt) (fun _ _ _ _ hm h => StmAt.move hm h) HCS.out HSM.out rfl hown2 (by rw [foldSs_len, List.length_take, Nat.min_eq_left (by rw [HM.out]; omega)]) hgrow (hatg.imp id fun h => by rw [h]; simp) (fun b hb => (HOWN.out.lt b hb).1) (by simp; omega))
                have hbN : Below w.heap.size w w2 := below_grown (below_new HB7.out (by omega) _) hgrow (HOWN.out.alloc _) (by omega) (by simp; omega)
                clear hown2 hgrow hatg HSM HCS HOWN HBU'
                go_wp2
                go_roundw
                case rel => exact ⟨i + 1, _, rfl, by omega, by go_num, HBN2, hbN⟩
                case measure => simp [intOf]; omega
      · obtain rfl : i = m := by omega
        have hbu := HBU.out
        rw [List.take_of_length_le (by rw [HM.out]; exact Nat.le_refl _)] at hbu
        obtain ⟨A1, c1, hv, hrow1⟩ := Built.row (Q := StmAt) (bytes := 288) (fun _ _ _ _ hm h => StmAt.move hm h) hbu (by rw [foldSs_len, HM.out]; exact hsb) (by decide)
        have HRES : Hid (StRes H p (foldSs opF xs) (.returned vo) wr) := Lib.hid ⟨A1, c1, by rw [hv], hrow1⟩
        clear HBU hbu hv hrow1
        go_wp2
        go_ret
        exact ⟨HRES.out, by rw [← HH.out]; exact hbr⟩

end Go.Proofs.Ytcamegfnhbbaeaa
