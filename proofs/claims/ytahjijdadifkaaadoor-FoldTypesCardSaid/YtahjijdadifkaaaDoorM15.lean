/- Merged: Layer 21: statements folded. Two rows of the same numbers are the same. Two rows of one and the same expressions are the same. Loads of many cells in a region that draws its order. -/
import Derived.Test.YtahjijdadifkaaaDoorM14
import Derived.Test.YtahjijdadifkaaaDoorWild
import Derived.Test.YtahjijdadifkaaaDoorM04
import Derived.Test.YtahjijdadifkaaaDoorM07
import Derived.Deep.RegionHeld3
set_option linter.unusedVariables false
set_option linter.unusedSimpArgs false
namespace Go.Proofs.YtahjijdadifkaaaDoor
open Go.RowKit
attribute [local go_sem] ite_max ite_min vite_max vite_min ext_cell ext_frozen extS_cell extS_frozen

def StRes (H : Nat) (p : Nat → Bool) (ys : List Stm) (e : Ending) (w' : World) : Prop := ∃ A c, e = .returned (.slice A ys.length c) ∧ RowT (only w' (orNew p H)) A ys c
theorem wpList_store_newTo {P : Program} {ops : Array Oper} {rest : List Oper} {op : Oper} {a : Act} {w : World} {Q : Exit → Act → World → Prop} (hgd : op.guard = none) (ty : TypeId) (x y : Operand) (ho : op.op = .store ty x y) (hd : op.dst = none)
  (w0 : World) (c c' : Array Value) (hw : w = w0.alloc (.cells c ty)) (hx : a.eval x = .pointer (some ⟨w0.heap.size, 0, none⟩)) (hy : a.eval y = .agg c')
  (hi : (P.info? ty).map (·.size) = some c'.size) (hs : c.size = c'.size) (h1 : c'.all (·.oneCell') = true)
  (h : wpList P ops Q rest a (w0.alloc (.cells c' ty))) : wpList P ops Q (op :: rest) a w := wpList_store_new hgd ty x y ho w0 c c' hw hx hy hi hs h1 (by rw [hd]; exact h)
theorem wpList_store_midTo {P : Program} {ops : Array Oper} {rest : List Oper} {op : Oper} {a : Act} {w : World} {Q : Exit → Act → World → Prop} (hgd : op.guard = none) (ty : TypeId) (x y : Operand) (ho : op.op = .store ty x y) (hd : op.dst = none)
  (b o : Nat) (cells : Array Value) (hx : a.eval x = .pointer (some ⟨b, o, none⟩)) (hy : a.eval y = .agg cells)
  (ht : w.there b o cells.size) (hi : (P.info? ty).map (·.size) = some cells.size) (h1 : cells.all (·.oneCell') = true)
  (h : wpList P ops Q rest a (w.setCells b o cells.toList)) : wpList P ops Q (op :: rest) a w := wpList_store_mid hgd ty x y ho b o cells hx hy ht hi h1 (by rw [hd]; exact h)
theorem run_storeVar_cell {P : Program} (w : World) (b o : Nat) (ty : TypeId) (v : Value) (ht : w.there b o 1) (hi : (P.info? ty).map (·.size) = some 1) (h1 : v.oneCell' = true) :
  (storeVar ty ⟨b, o, none⟩ v).run P w = .ok () (w.setCells b o [v]) := by
 have := run_storeCells_cells (P := P) b o [v] 0 w (fun j hj => by simpa using (ht j (by simpa using hj)).1) (fun j hj => by simpa using (ht j (by simpa using hj)).2)
  (fun x hx => by rw [List.mem_singleton.1 hx]; exact h1)
 have hc : v.cells = #[v] := by cases v <;> first | rfl | cases h1
 cases hq : P.info? ty with
 | none => simp [hq] at hi
 | some i =>
  have hs : i.size = 1 := by simpa [hq] using hi
  simp only [Nat.add_zero] at this
  simp [storeVar, sizeOf, typeInfo, hq, hc, hs, this]
theorem wpList_store_cellTo {P : Program} {ops : Array Oper} {rest : List Oper} {op : Oper} {a : Act} {w : World} {Q : Exit → Act → World → Prop} (hgd : op.guard = none) (ty : TypeId) (x y : Operand) (ho : op.op = .store ty x y) (hd : op.dst = none)
  (b o : Nat) (v : Value) (hx : a.eval x = .pointer (some ⟨b, o, none⟩)) (hy : a.eval y = v)
  (ht : w.there b o 1) (hi : (P.info? ty).map (·.size) = some 1) (h1 : v.oneCell' = true)
  (h : ∀ W, Hid (W = w.setCells b o [v]) → wpList P ops Q rest a W) : wpList P ops Q (op :: rest) a w :=
 wpList_plain hgd fun _ hK => by
  unfold Oper.wp execOp
  simp only [ho, hx, hy, Instr.storeAt, Instr.sureAddr, Sem.run_bind, Sem.run_pure, Result.andThen_ok, run_storeVar_cell w b o ty v ht hi h1]
  exact hK _ _ (by rw [hd]; exact h _ (Lib.hid rfl))
theorem setCells_ne {g k : Nat} (h : k ≠ g) : ∀ (vs : List Value) (o : Nat) (w : World), (w.setCells g o vs).heap[k]? = w.heap[k]?
 | [], _, _ => rfl
 | v :: r, o, w => by
  rw [World.setCells, setCells_ne h r]
  exact heap_setCell_other _ _ _ _ h
theorem setCells_size {g : Nat} : ∀ (vs : List Value) (o : Nat) (w : World), (w.setCells g o vs).heap.size = w.heap.size
 | [], _, _ => rfl
 | v :: r, o, w => by
  rw [World.setCells, setCells_size r]
  simp
theorem below_cells {B g : Nat} {a : World} (hg : B ≤ g) : ∀ (vs : List Value) (o : Nat) (w : World), Below B a w → Below B a (w.setCells g o vs)
 | [], _, _, h => h
 | v :: r, o, w, h => by
  rw [World.setCells]
  exact below_cells hg r _ _ (h.setCell hg _)
theorem exprs_size : (Tryd.prog.info? 26).map (·.size) = some 1 := by kernel_rfl
theorem blocks_size : (Tryd.prog.info? 59).map (·.size) = some 1 := by kernel_rfl
def isExR (H : Nat) (y : Ex) (v : Value) (w : World) : Prop := ∃ A c, v = .agg #[.int .i64 y.op, .int .i64 y.n, .string y.name, .string y.field, .slice A y.sub.length c, .int .i64 y.line] ∧ ExAt (only w (news H)) y (ExC y A c)
theorem isExR.below {H : Nat} {y : Ex} {v : Value} {w w' : World} (h : isExR H y v w) (hb : Below w.heap.size w w') : isExR H y v w' := by
 obtain ⟨A, c, e, h⟩ := h
 exact ⟨A, c, e, h.move (.onlyB hb fun b _ h => h)⟩
def isRwR (H : Nat) (ys : List Ex) (v : Value) (w : World) : Prop := ∃ A c, v = .slice A ys.length c ∧ RowE (only w (news H)) A ys c
theorem isRwR.below {H : Nat} {ys : List Ex} {v : Value} {w w' : World} (h : isRwR H ys v w) (hb : Below w.heap.size w w') : isRwR H ys v w' := by
 obtain ⟨A, c, e, h⟩ := h
 exact ⟨A, c, e, h.move (.onlyB hb fun b _ h => h)⟩
theorem news_mono {w : World} {H K : Nat} (h : K ≤ H) : Moves (only w (news H)) (only w (news K)) := .onlyW (Nat.le_refl _) fun b _ hp => ⟨by rw [news_iff] at hp ⊢; omega, rfl⟩
theorem fexpr_wild {x : Ex} {w : World} {A : Option Addr} {cap K : Nat} (h : ExAt w x (ExC x A cap)) (hK : K ≤ w.heap.size) :
  Calls Tryd.prog 11 #[.agg (ExC x A cap).toArray] w (wildPost w (isExR K (foldE opF x)) fun _ => []) := (fexpr_any _ x (Nat.lt_succ_self _) w A cap h).mono fun e w' ⟨⟨A', c', he, hat⟩, hb⟩ => ⟨_, he, ⟨A', c', rfl, hat.move (news_mono hK)⟩, hb, fun b hb => by cases hb⟩
theorem fexprs_wild {xs : List Ex} {w : World} {A : Option Addr} {cap K : Nat} (h : RowE w A xs cap) (hK : K ≤ w.heap.size) :
  Calls Tryd.prog 40 #[.slice A xs.length cap] w (wildPost w (isRwR K (foldEs opF xs)) fun _ => []) := (fexprs_any xs w A cap h).mono fun e w' ⟨⟨A', c', he, hat⟩, hb⟩ => ⟨_, he, ⟨A', c', rfl, hat.move (news_mono hK)⟩, hb, fun b hb => by cases hb⟩
def oldP (p : Nat → Bool) (H : Nat) : Nat → Bool := fun i => decide (i < H) && p i
theorem oldP_iff {p : Nat → Bool} {H i : Nat} : oldP p H i = true ↔ i < H ∧ p i = true := by simp [oldP]
theorem stmt_info : (Tryd.prog.info? 63).map (fun i => (i.zero.map (·.cells.size), i.size, i.bytes)) = some (some 19, 19, 288) := by kernel_rfl
theorem stmt_parts : ∃ i z, Tryd.prog.info? 63 = some i ∧ i.zero = some z ∧ z.cells.size = 19 ∧ i.size = 19 ∧ i.bytes = 288 := by
 obtain ⟨i, hi, h⟩ := Option.map_eq_some_iff.1 stmt_info
 simp only [Prod.mk.injEq] at h
 obtain ⟨hz, h1, h2⟩ := h
 obtain ⟨z, hz, hs⟩ := Option.map_eq_some_iff.1 hz
 exact ⟨i, z, hi, hz, hs, h1, h2⟩
theorem block_info : (Tryd.prog.info? 23).map (fun i => (i.zero, i.size, i.bytes)) = some (some (.slice none 0 0), 1, 24) := by kernel_rfl
theorem foldS_eq (F : Int → List Int → Bool → Int × Bool × Int) (s : Stm) : foldS F s = .mk s.op s.name (foldE F s.dst) (foldE F s.src) (foldEs F s.conds) s.labels s.fields (foldBs F s.blocks) s.line := by
 cases s
 rw [foldS]
 rfl

structure PV (V : World) (q : Nat → Bool) (N : Nat) (s : Stm) (m : SM) (y1 y2 : Ex) (zs : List Ex) (A1 A2 A3 : Option Addr) (k1 k2 k3 : Nat) : Prop where
 dst : ExAt (only V (news N)) y1 (ExC y1 A1 k1)
 src : ExAt (only V (news N)) y2 (ExC y2 A2 k2)
 conds : RowE (only V (news N)) A3 zs k3
 labels : RowL (only V q) m.la s.labels m.lk
 fields : RowS (only V q) m.fa s.fields m.fk
 blocks : RowB (only V q) m.ba s.blocks m.bk
theorem PV.turn {V V' : World} {q : Nat → Bool} {N : Nat} {s : Stm} {m : SM} {y1 y2 : Ex} {zs : List Ex} {A1 A2 A3 : Option Addr} {k1 k2 k3 : Nat} (h : PV V q N s m y1 y2 zs A1 A2 A3 k1 k2 k3)
  (hs : V.heap.size ≤ V'.heap.size) (hb : ∀ b, b < V.heap.size → (q b = true ∨ N ≤ b) → V'.heap[b]? = V.heap[b]?) : PV V' q N s m y1 y2 zs A1 A2 A3 k1 k2 k3 := by
 have m1 : Moves (only V (news N)) (only V' (news N)) := .onlyW hs fun b hl hp => ⟨hp, hb b hl (.inr (news_iff.1 hp))⟩
 have m2 : Moves (only V q) (only V' q) := .onlyW hs fun b hl hp => ⟨hp, hb b hl (.inl hp)⟩
 exact ⟨h.dst.move m1, h.src.move m1, h.conds.move m1, h.labels.move m2, h.fields.move m2, h.blocks.move m2⟩
theorem PV.below {V V' : World} {q : Nat → Bool} {N : Nat} {s : Stm} {m : SM} {y1 y2 : Ex} {zs : List Ex} {A1 A2 A3 : Option Addr} {k1 k2 k3 : Nat} (h : PV V q N s m y1 y2 zs A1 A2 A3 k1 k2 k3)
  (hb : Below V.heap.size V V') : PV V' q N s m y1 y2 zs A1 A2 A3 k1 k2 k3 := h.turn hb.size fun b hl _ => hb.block b hl
theorem there_heap {w : World} {G o n : Nat} {cs : Array Value} {T : TypeId} (h : w.heap[G]? = some (.cells cs T)) (hn : o + n ≤ cs.size) : w.there G o n := fun j hj => by
 refine ⟨?_, heap_free _ h⟩
 rw [heap_cell (o + j) (cs[o + j]'(by omega)) h (Array.getElem?_eq_getElem (by omega))]
 rfl

theorem sets_stm (s : Stm) (ms : SM) (y1 y2 : Ex) (zs : List Ex) (A1 A2 A3 : Option Addr) (k1 k2 k3 : Nat) :
  setsFrom (setsFrom (setsFrom (StmC s ms).toArray 2 (exA y1.op y1.n y1.name y1.field A1 y1.sub.length k1 y1.line).toList) 8 (exA y2.op y2.n y2.name y2.field A2 y2.sub.length k2 y2.line).toList) 14 [.slice A3 zs.length k3] =
  #[.int .i64 s.op, .string s.name, .int .i64 y1.op, .int .i64 y1.n, .string y1.name, .string y1.field, .slice A1 y1.sub.length k1, .int .i64 y1.line, .int .i64 y2.op, .int .i64 y2.n, .string y2.name, .string y2.field, .slice A2 y2.sub.length k2, .int .i64 y2.line, .slice A3 zs.length k3, .slice ms.la s.labels.length ms.lk, .slice ms.fa s.fields.length ms.fk, .slice ms.ba s.blocks.length ms.bk, .int .i64 s.line] := by
 simp [setsFrom, exA, StmC]

theorem sets_stm7 (s : Stm) (ms : SM) (y1 y2 : Ex) (zs : List Ex) (bs : List (List Stm)) (A1 A2 A3 A7 : Option Addr) (k1 k2 k3 c7 : Nat) {nb : Nat} (hn : s.blocks.length = nb) :
  setsFrom #[.int .i64 s.op, .string s.name, .int .i64 y1.op, .int .i64 y1.n, .string y1.name, .string y1.field, .slice A1 y1.sub.length k1, .int .i64 y1.line, .int .i64 y2.op, .int .i64 y2.n, .string y2.name, .string y2.field, .slice A2 y2.sub.length k2, .int .i64 y2.line, .slice A3 zs.length k3, .slice ms.la s.labels.length ms.lk, .slice ms.fa s.fields.length ms.fk, .slice ms.ba nb ms.bk, .int .i64 s.line] 17 [.slice A7 bs.length c7] = #[.int .i64 s.op, .string s.name, .int .i64 y1.op, .int .i64 y1.n, .string y1.name, .string y1.field, .slice A1 y1.sub.length k1, .int .i64 y1.line, .int .i64 y2.op, .int .i64 y2.n, .string y2.name, .string y2.field, .slice A2 y2.sub.length k2, .int .i64 y2.line, .slice A3 zs.length k3, .slice ms.la s.labels.length ms.lk, .slice ms.fa s.fields.length ms.fk, .slice A7 bs.length c7, .int .i64 s.line] := by
 subst hn
 simp [setsFrom]

set_option maxRecDepth 100000 in
set_option maxHeartbeats 4000000 in
theorem fstmts_any : ∀ (k : Nat) (xs : List Stm), SizeOf.sizeOf xs < k → ∀ (p : Nat → Bool) (w : World) (A : Option Addr) (cap : Nat), RowT (only w p) A xs cap → Calls Tryd.prog 20 #[.slice A xs.length cap] w fun e w' => StRes w.heap.size p (foldSs opF xs) e w' ∧ Below w.heap.size w w' := by
 intro k
 induction k with
 | zero => intro xs h; omega
 | succ k ih =>
  intro xs hsz p w A cap hrow
  obtain ⟨H, hH⟩ : ∃ H, w.heap.size = H := ⟨_, rfl⟩
  have HIH := Lib.hid ih
  have HSZ := Lib.hid hsz
  have HR := Lib.hid hrow
  have hsl := hrow.1
  have hsc := hrow.2.1
  have hsb := hrow.2.2.1
  obtain ⟨m, hm⟩ : ∃ m, xs.length = m := ⟨_, rfl⟩
  rw [hm] at hsl hsb ⊢
  have HM := Lib.hid hm
  clear ih hrow hm hsz
  rw [hH]
  have HH := Lib.hid hH
  have hHw : w.heap.size ≤ H := by omega
  have hHw2 : H ≤ w.heap.size := by omega
  clear hH
  go_enter Tryd.func20, Tryd.ntmps20
  go_wp2_with fail
  go_loopw [3, 11] (fun v u wr => ∃ (i : Nat) (v' : Value), v' = v ∧ i ≤ m ∧ u = .int .i64 i ∧ Hid (Built StmAt 63 19 p wr H (foldSs opF (xs.take i)) v') ∧ Below w.heap.size w wr) (fun _ u _ => m - (intOf u).toNat)
  case atStart => exact ⟨0, _, rfl, by omega, rfl, Lib.hid (by rw [List.take_zero, foldSs]; exact Built.nil _), Below.refl _ _⟩
  case round =>
   obtain ⟨i, v', rfl, hi, rfl, HBU, hbr⟩ := hrel
   have hbs := hbr.size
   by_cases hlt : i < m
   ·have hrq : RowT (only wr (oldP p H)) A xs cap := HR.out.move (.onlyB hbr fun b hb hp => by rw [oldP_iff]; exact ⟨by omega, hp⟩)
    obtain ⟨b, off, s, ms, rfl, hbl, hy, hsv⟩ := RowT.at hrq (i := i) (by rw [HM.out]; exact hlt)
    have hi0 : (0 : Int) ≤ (i : Int) ∧ (i : Int) < (m : Int) := by omega
    have HY := Lib.hid hy
    have HSV := Lib.hid hsv
    have HRG : Hid (wr.rangeAt b (off + i * 19) (StmC s ms)) := Lib.hid (fun j u hu => (only_cell (hsv.cell j u hu)).2)
    clear hy hsv hrq
    go_upto_region 5 with (first
     | refine wpList_load_mid rfl 63 _ rfl b (off + i * 19) rfl (StmC s ms) _ HRG.out Tryd.underlying63 rfl stmt_size ?_
     | refine wpList_store_newTo rfl 63 _ _ rfl rfl wr _ (StmC s ms).toArray rfl rfl rfl stmt_size rfl (stmC_one s ms) ?_)
    refine wp_name fun W2 hW2 => ?_
    obtain ⟨G, hG⟩ : ∃ G, G = wr.heap.size := ⟨_, rfl⟩
    rw [← hG]
    have hB2 : Below wr.heap.size wr W2 := by rw [hW2.out]; exact belowBy
    have hh : W2.heap[G]? = some (.cells (StmC s ms).toArray 63) := by rw [hW2.out, hG]; exact heap_alloc_new _ _
    have hz2 : W2.heap.size = G + 1 := by rw [hW2.out, hG]; simp
    have hGw : wr.heap.size ≤ G := by omega
    have hGw2 : G ≤ wr.heap.size := by omega
    have m2 : Moves (only wr (oldP p H)) (only W2 (oldP p H)) := .onlyB hB2 fun b _ h => h
    have HB2 := Lib.hid hB2
    have HHH := Lib.hid hh
    have d2 : W2.cell? ⟨G, 2, none⟩ = some (.int .i64 s.dst.op) := heap_cell 2 _ hh rfl
    have d3 : W2.cell? ⟨G, 3, none⟩ = some (.int .i64 s.dst.n) := heap_cell 3 _ hh rfl
    have d4 : W2.cell? ⟨G, 4, none⟩ = some (.string s.dst.name) := heap_cell 4 _ hh rfl
    have d5 : W2.cell? ⟨G, 5, none⟩ = some (.string s.dst.field) := heap_cell 5 _ hh rfl
    have d6 : W2.cell? ⟨G, 6, none⟩ = some (.slice ms.ta s.dst.sub.length ms.tk) := heap_cell 6 _ hh rfl
    have d7 : W2.cell? ⟨G, 7, none⟩ = some (.int .i64 s.dst.line) := heap_cell 7 _ hh rfl
    have d8 : W2.cell? ⟨G, 8, none⟩ = some (.int .i64 s.src.op) := heap_cell 8 _ hh rfl
    have d9 : W2.cell? ⟨G, 9, none⟩ = some (.int .i64 s.src.n) := heap_cell 9 _ hh rfl
    have d10 : W2.cell? ⟨G, 10, none⟩ = some (.string s.src.name) := heap_cell 10 _ hh rfl
    have d11 : W2.cell? ⟨G, 11, none⟩ = some (.string s.src.field) := heap_cell 11 _ hh rfl
    have d12 : W2.cell? ⟨G, 12, none⟩ = some (.slice ms.va s.src.sub.length ms.vk) := heap_cell 12 _ hh rfl
    have d13 : W2.cell? ⟨G, 13, none⟩ = some (.int .i64 s.src.line) := heap_cell 13 _ hh rfl
    have d14 : W2.cell? ⟨G, 14, none⟩ = some (.slice ms.ca s.conds.length ms.ck) := heap_cell 14 _ hh rfl
    have HPQ : Hid (RowL (only W2 (oldP p H)) ms.la s.labels ms.lk ∧ RowS (only W2 (oldP p H)) ms.fa s.fields ms.fk ∧ RowB (only W2 (oldP p H)) ms.ba s.blocks ms.bk) := Lib.hid ⟨HSV.out.labels.move m2, HSV.out.fields.move m2, HSV.out.blocks.move m2⟩
    have HDS : Hid (ExAt W2 s.dst (ExC s.dst ms.ta ms.tk) ∧ ExAt W2 s.src (ExC s.src ms.va ms.vk) ∧ RowE W2 ms.ca s.conds ms.ck) := Lib.hid ⟨HSV.out.dst.move (m2.trans (Moves.only _ _)), HSV.out.src.move (m2.trans (Moves.only _ _)), HSV.out.conds.move (m2.trans (Moves.only _ _))⟩
    have HOI : Hid (I64 s.op ∧ I64 s.line) := Lib.hid ⟨HSV.out.op, HSV.out.line⟩
    clear hW2 hB2 hh hG m2 HSV HRG
    obtain ⟨wo, rfl⟩ : ∃ wo : World, wo = wr := ⟨_, rfl⟩
    go_wp2_with fail
    refine wp_region_wild 10 1000 ([{ i := 2, d := 17, R := isExR W2.heap.size (foldE opF s.dst), N := (fun _ => []) }, { i := 5, d := 20, R := isExR W2.heap.size (foldE opF s.src), N := (fun _ => []) }, { i := 8, d := 23, R := isRwR W2.heap.size (foldEs opF s.conds), N := (fun _ => []) }] : List Wd) [false, false, true, false, false, true, false, false, true, false] rfl (by kernel_rfl) (by kernel_rfl) (fun _ _ _ _ _ h => h) (by kernel_rfl) ?_ ?_
    ·intro x hx v w1 w2 hR hb
     simp only [List.mem_cons, List.not_mem_nil, or_false] at hx
     rcases hx with rfl | rfl | rfl
     all_goals (dsimp only at hR ⊢; exact hR.below hb)
    apply Exists.intro
    refine ⟨fun S hS hne => ?_, ?_, ?_, ?_⟩
    ·simp only [List.take_succ_cons, List.take_zero, List.map_cons, List.map_nil]
     delta CS
     repeat (first | with_reducible refine mask_skip ?_ | ((with_reducible refine mask_keep ?_); go_big_quiet_step (fail)))
     exact mask_nil rfl
    ·intro x hx he
     simp only [List.mem_cons, List.not_mem_nil, or_false] at hx
     rcases hx with rfl | rfl | rfl
     all_goals (dsimp only at he; exact absurd he (by decide))
    ·skip
     simp only [List.forall_mem_cons, List.not_mem_nil, false_implies, implies_true, and_true]
     refine ⟨?_, ?_, ?_⟩
     all_goals
      intro o ho
      simp only [List.getElem?_cons_succ, List.getElem?_cons_zero, Option.some.injEq] at ho
      subst ho
      intro vs w' hbw hdeps
      simp only [putsF, List.foldl_cons, List.foldl_nil]
      refine ⟨by first | rfl | go_simp, ?_⟩
      first | with_reducible refine wild_plain ?_ | with_reducible refine wild_link ?_
      clear hdeps
      go_simp
     ·apply wildUpon_enter
      exact fexpr_wild (HDS.out.1.keep hbw) (by have := hbw.size; omega)
     ·apply wildUpon_enter
      exact fexpr_wild (HDS.out.2.1.keep hbw) (by have := hbw.size; omega)
     ·apply wildUpon_enter
      exact fexprs_wild (HDS.out.2.2.below hbw) (by have := hbw.size; omega)
    ·skip
     intro vs w' hbw hr hap hlk
     simp only [List.forall_mem_cons, List.not_mem_nil, false_implies, implies_true, and_true] at hr hap
     obtain ⟨hh2, hh5, hh8⟩ := hr
     obtain ⟨A1, k1, e2, o2⟩ := hh2
     obtain ⟨A2, k2, e5, o5⟩ := hh5
     obtain ⟨A3, k3, e8, o8⟩ := hh8
     clear hlk
     try simp only [e2, e5, e8] at hap
     try simp only [newB_ptr, newB_row, newB_win, newB_win2, List.mem_cons, forall_eq_or_imp, or_false, List.mem_singleton, forall_eq, List.not_mem_nil, false_implies, implies_true, not_false_eq_true, and_true, true_and] at  hap
     try simp only [ne_eq, not_true_eq_false, false_implies, true_and, and_true, Nat.reduceEqDiff, not_false_eq_true, forall_const] at hap
     simp only [putsF, List.foldl_cons, List.foldl_nil, e2, e5, e8, List.drop_succ_cons, List.drop_zero]
     clear e2 e5 e8
     obtain ⟨y1, hy1⟩ : ∃ y, foldE opF s.dst = y := ⟨_, rfl⟩
     obtain ⟨y2, hy2⟩ : ∃ y, foldE opF s.src = y := ⟨_, rfl⟩
     obtain ⟨zs, hzs⟩ : ∃ y, foldEs opF s.conds = y := ⟨_, rfl⟩
     rw [hy1] at o2 ⊢
     rw [hy2] at o5 ⊢
     rw [hzs] at o8 ⊢
     have HYS := Lib.hid (And.intro hy1 (And.intro hy2 hzs))
     have hz' := hbw.size
     have hhW := (hbw.block G (by omega)).trans HHH.out
     have HPV : Hid (PV w' (oldP p H) (G + 1) s ms y1 y2 zs A1 A2 A3 k1 k2 k3) := Lib.hid ⟨by rw [← hz2]; exact o2, by rw [← hz2]; exact o5, by rw [← hz2]; exact o8, HPQ.out.1.move (.onlyB hbw fun b _ h => h), HPQ.out.2.1.move (.onlyB hbw fun b _ h => h), HPQ.out.2.2.move (.onlyB hbw fun b _ h => h)⟩
     have HHW := Lib.hid hhW
     have HBW' := Lib.hid (HB2.out.trans (hbw.mono HB2.out.size))
     have HTH : Hid (w'.there G 2 6 ∧ w'.there G 8 6 ∧ w'.there G 14 1) := Lib.hid ⟨there_heap hhW (by show 2 + 6 ≤ 19; omega), there_heap hhW (by show 8 + 6 ≤ 19; omega), there_heap hhW (by show 14 + 1 ≤ 19; omega)⟩
     clear o2 o5 o8 hy1 hy2 hzs hhW d2 d3 d4 d5 d6 d7 d8 d9 d10 d11 d12 d13 d14 HDS HPQ
     refine wpList_store_midTo rfl 28 _ _ rfl rfl G 2 (exA y1.op y1.n y1.name y1.field A1 y1.sub.length k1 y1.line) rfl rfl HTH.out.1 expr_size (exA_one _ _ _ _ _ _ _ _) ?_
     go_upto_region 7 with (refine wpList_store_midTo rfl 28 _ _ rfl rfl G 8 (exA y2.op y2.n y2.name y2.field A2 y2.sub.length k2 y2.line) rfl rfl (World.there_setCells HTH.out.2.1 _ _ _) expr_size (exA_one _ _ _ _ _ _ _ _) ?_; (go_upto_region 7 with (refine wpList_store_cellTo rfl 26 _ _ rfl rfl G 14 (.slice A3 zs.length k3) rfl rfl (World.there_setCells (World.there_setCells HTH.out.2.2 _ _ _) _ _ _) exprs_size rfl (fun W5 hW5 => ?_))))
     have hh5 : W5.heap[G]? = some (.cells #[.int .i64 s.op, .string s.name, .int .i64 y1.op, .int .i64 y1.n, .string y1.name, .string y1.field, .slice A1 y1.sub.length k1, .int .i64 y1.line, .int .i64 y2.op, .int .i64 y2.n, .string y2.name, .string y2.field, .slice A2 y2.sub.length k2, .int .i64 y2.line, .slice A3 zs.length k3, .slice ms.la s.labels.length ms.lk, .slice ms.fa s.fields.length ms.fk, .slice ms.ba s.blocks.length ms.bk, .int .i64 s.line] 63) := by
      rw [hW5.out]
      have h5 := heap_setCells [.slice A3 zs.length k3] 14 _ _ (heap_setCells (exA y2.op y2.n y2.name y2.field A2 y2.sub.length k2 y2.line).toList 8 _ _ (heap_setCells (exA y1.op y1.n y1.name y1.field A1 y1.sub.length k1 y1.line).toList 2 _ _ HHW.out))
      rw [sets_stm] at h5
      exact h5
     have hB5 : Below wo.heap.size wo W5 := by
      rw [hW5.out]
      exact below_cells hGw _ _ _ (below_cells hGw _ _ _ (below_cells hGw _ _ _ HBW'.out))
     have hz5 : W5.heap.size = w'.heap.size := by rw [hW5.out, setCells_size, setCells_size, setCells_size]
     have HPV5 := Lib.hid (HPV.out.turn (V' := W5) (by omega) fun b hb hp => by
      have hne : b ≠ G := by
       rcases hp with hp | hp
       ·rw [oldP_iff] at hp
        omega
       ·omega
      rw [hW5.out, setCells_ne hne, setCells_ne hne, setCells_ne hne])
     have HB5 := Lib.hid hB5
     have HH5 := Lib.hid hh5
     have d17 : W5.cell? ⟨G, 17, none⟩ = some (.slice ms.ba s.blocks.length ms.bk) := heap_cell 17 _ hh5 rfl
     have hbl := HPV5.out.blocks.1
     have hbc := HPV5.out.blocks.2.1
     have hbb := HPV5.out.blocks.2.2.1
     obtain ⟨nb, hnb⟩ : ∃ n, s.blocks.length = n := ⟨_, rfl⟩
     rw [hnb] at hbl hbb d17
     have HNB := Lib.hid hnb
     obtain ⟨i1, hi1, iz0, iz1, iz2⟩ := info_parts block_info
     have II := Lib.hid hi1
     have IZ0 := Lib.hid iz0
     have IZ1 := Lib.hid iz1
     have IZ2 := Lib.hid iz2
     have hzW : W2.heap.size ≤ W5.heap.size := by omega
     have hGW5 : G + 1 ≤ W5.heap.size := by omega
     have hHW5 : H ≤ W5.heap.size := by omega
     clear hi1 iz0 iz1 iz2 hnb hW5 hh5 hB5 HPV HHW HBW' HTH HHH HB2 hbw hz2 hz5
     go_wp2_with fail
     go_loopw [6, 30] (fun v u wq => ∃ (j : Nat) (v6 : Value), v6 = v ∧ j ≤ nb ∧ u = .int .i64 j ∧ Hid (Built BlockC 23 1 (oldP p H) wq W5.heap.size (foldBs opF (s.blocks.take j)) v6) ∧ Below W5.heap.size W5 wq) (fun _ u _ => nb - (intOf u).toNat)
     case atStart => exact ⟨0, _, rfl, by omega, rfl, Lib.hid (by rw [List.take_zero, foldBs]; exact Built.nil _), Below.refl _ _⟩
     case round =>
      obtain ⟨j, v6, rfl, hj, rfl, HB6, hbq⟩ := hrel
      have hzq := hbq.size
      have HPVq := Lib.hid (HPV5.out.below hbq)
      by_cases hlt2 : j < nb
      ·obtain ⟨b5, o5, bl, cs5, hA5, hb5, hz5', ⟨A6, k6, rfl, hr6⟩, hc5⟩ := RowOf.at HPVq.out.blocks (i := j) (by rw [HNB.out]; exact hlt2)
       have hj0 : (0 : Int) ≤ (j : Int) ∧ (j : Int) < (nb : Int) := by omega
       have c5 : wr.cell? ⟨b5, o5 + j, none⟩ = some (.slice A6 bl.length k6) := by
        have := hc5 0 (by omega)
        rw [Nat.mul_one, Nat.add_zero] at this
        exact (only_cell this).2
       have HR6 := Lib.hid hr6
       have HBL := Lib.hid hz5'
       have HBQ := Lib.hid hbq
       rw [hA5]
       clear hc5 hr6 hz5' hA5
       go_wp2_with fail
       refine (HIH.out bl (by have := block_lt HY.out HBL.out; have := HSZ.out; omega) (oldP p H) _ A6 k6 HR6.out).mono ?_
       rintro e w1 ⟨⟨A8, c8, rfl, hr8⟩, hb1⟩
       have hz1 := hb1.size
       obtain ⟨y', hy'⟩ : ∃ y', foldSs opF bl = y' := ⟨_, rfl⟩
       rw [hy'] at hr8 ⊢
       obtain ⟨cs, hown, hcs⟩ := Built.below (Q := BlockC) (fun _ _ _ _ hm h => BlockC.move hm h) HB6.out hb1
       rw [foldBs_len, List.length_take, Nat.min_eq_left (by rw [HNB.out]; omega)] at hown
       have hb1a : Below w1.heap.size w1 (w1.alloc (.cells #[.slice A8 y'.length c8] 23)) := below_new (Below.refl _ _) (Nat.le_refl _) _
       have hat2 : BlockC (only (w1.alloc (.cells #[.slice A8 y'.length c8] 23)) (orFree (oldP p H) W5.heap.size v6)) y' [.slice A8 y'.length c8] := ⟨A8, c8, rfl, hr8.move (.onlyB hb1a fun b hb hp => by
        rw [orNew_iff] at hp
        rw [orFree_iff]
        rcases hp with ⟨h1, h2⟩ | h1
        ·left
         have h2' := h2
         rw [oldP_iff] at h2'
         exact ⟨by omega, h2⟩
        ·refine .inr ⟨by omega, fun e => ?_⟩
         obtain ⟨cs0, ho0, -⟩ := HB6.out
         have := (ho0.lt b e.symm).2
         omega)⟩
       have HAT2 := Lib.hid hat2
       have HCS := Lib.hid (hcs.mono fun z c hz => BlockC.move (.onlyB hb1a fun b _ h => h) hz)
       have HOWN := Lib.hid hown
       have HB1 := Lib.hid (hbq.trans (hb1.mono hbq.size))
       have HYY := Lib.hid hy'
       clear hr8 hat2 hcs hown hb1 hb1a hy'
       go_wp2_with (at_builtin; refine wpList_append_lies _ rfl _ _ 59 rfl W5.heap.size 23 i1 (.slice none 0 0) 1 24 Tryd.underlying59 II.out IZ0.out IZ1.out IZ2.out rfl (by decide) _ j _ rfl (HOWN.out.alloc _) ⟨w1.heap.size, 0, none⟩ 1 1 [.slice A8 y'.length c8] rfl rfl ?c4 ?c6 (by decide) ?c1 ?c2 ?c3 (w1.heap.size + 1) ?c5 ?_)
       case c4 =>
        intro q u hu
        have had : (⟨w1.heap.size, 0, none⟩ : Addr).add q = ⟨w1.heap.size, q, none⟩ := by cases q <;> simp [Addr.add]
        rw [had]
        exact heap_cell q _ (heap_alloc_new w1 _) (by rw [List.getElem?_toArray]; exact hu)
       case c6 => exact one_cell _ rfl
       case c1 => unfold maxLen; omega
       case c2 => omega
       case c3 => first | omega | (simp; omega)
       case c5 => simp
       intro g cap2 w2 hown2 hgrow hatg hg2
       have HB7 : Hid (Built BlockC 23 1 (oldP p H) w2 W5.heap.size (foldBs opF (s.blocks.take (j + 1))) (.slice (some ⟨g, 0, none⟩) (j + 1) cap2)) := Lib.hid (by
        rw [foldBs_snoc opF HBL.out, HYY.out]
        exact Built.snoc (Q := BlockC) (fun _ _ _ _ hm h => BlockC.move hm h) HCS.out HAT2.out rfl hown2 (by rw [foldBs_len, List.length_take, Nat.min_eq_left (by rw [HNB.out]; omega)]) hgrow (hatg.imp id fun h => by rw [h]; simp) (fun b hb => (HOWN.out.lt b hb).1) (by simp; omega))
       have hb2 : Below W5.heap.size W5 w2 := below_grown (below_new HB1.out (by have := HBQ.out.size; omega) _) hgrow (HOWN.out.alloc _) (by omega) (by have := HBQ.out.size; simp; omega)
       clear hown2 hgrow hatg HAT2 HCS HOWN
       go_wp2
       go_roundw
       case rel => exact ⟨j + 1, _, rfl, by omega, by go_num, HB7, hb2⟩
       case measure => simp [intOf]; omega
      ·obtain rfl : j = nb := by omega
       have hbu := HB6.out
       rw [List.take_of_length_le (by rw [HNB.out]; exact Nat.le_refl _)] at hbu
       obtain ⟨bs, hbs'⟩ : ∃ y', foldBs opF s.blocks = y' := ⟨_, rfl⟩
       rw [hbs'] at hbu
       have hbsl : bs.length = j := by rw [← hbs', foldBs_len, HNB.out]
       obtain ⟨A7, c7, rfl, hrow7⟩ := Built.row (Q := BlockC) (bytes := 24) (fun _ _ _ _ hm h => BlockC.move hm h) hbu (by rw [hbsl]; exact hbb) (by decide)
       have HR7 := Lib.hid hrow7
       have HBS := Lib.hid hbs'
       have hX := (hbq.block G (by omega)).trans HH5.out
       have HTH7 : Hid (wr.there G 17 1) := Lib.hid (there_heap hX (by show 17 + 1 ≤ 19; omega))
       have HX7 := Lib.hid hX
       have HBQ := Lib.hid (HB5.out.trans (hbq.mono HB5.out.size))
       clear hbu hbs' hbsl hrow7 hX HB6 HPV5 HB5 HH5 d17 hbq HIH
       go_upto_region 13 with (refine wpList_store_cellTo rfl 59 _ _ rfl rfl G 17 (.slice A7 bs.length c7) rfl rfl HTH7.out blocks_size rfl (fun W7 hW7 => ?_))
       have hh7 : W7.heap[G]? = some (.cells #[.int .i64 s.op, .string s.name, .int .i64 y1.op, .int .i64 y1.n, .string y1.name, .string y1.field, .slice A1 y1.sub.length k1, .int .i64 y1.line, .int .i64 y2.op, .int .i64 y2.n, .string y2.name, .string y2.field, .slice A2 y2.sub.length k2, .int .i64 y2.line, .slice A3 zs.length k3, .slice ms.la s.labels.length ms.lk, .slice ms.fa s.fields.length ms.fk, .slice A7 bs.length c7, .int .i64 s.line] 63) := by
        rw [hW7.out]
        have h7 := heap_setCells [.slice A7 bs.length c7] 17 _ _ HX7.out
        rw [sets_stm7 s ms y1 y2 zs bs A1 A2 A3 A7 k1 k2 k3 c7 rfl] at h7
        exact h7
       have hz7 : W7.heap.size = wr.heap.size := by rw [hW7.out, setCells_size]
       have hB7 : Below wo.heap.size wo W7 := by
        rw [hW7.out]
        exact below_cells hGw _ _ _ HBQ.out
       have hne : ∀ b, b ≠ G → W7.heap[b]? = wr.heap[b]? := fun b hb => by rw [hW7.out, setCells_ne hb]
       have hsm : StmAt (only (W7.alloc (.cells #[.int .i64 s.op, .string s.name, .int .i64 y1.op, .int .i64 y1.n, .string y1.name, .string y1.field, .slice A1 y1.sub.length k1, .int .i64 y1.line, .int .i64 y2.op, .int .i64 y2.n, .string y2.name, .string y2.field, .slice A2 y2.sub.length k2, .int .i64 y2.line, .slice A3 zs.length k3, .slice ms.la s.labels.length ms.lk, .slice ms.fa s.fields.length ms.fk, .slice A7 bs.length c7, .int .i64 s.line] 63)) (orFree p H v')) (foldS opF s) [.int .i64 s.op, .string s.name, .int .i64 y1.op, .int .i64 y1.n, .string y1.name, .string y1.field, .slice A1 y1.sub.length k1, .int .i64 y1.line, .int .i64 y2.op, .int .i64 y2.n, .string y2.name, .string y2.field, .slice A2 y2.sub.length k2, .int .i64 y2.line, .slice A3 zs.length k3, .slice ms.la s.labels.length ms.lk, .slice ms.fa s.fields.length ms.fk, .slice A7 bs.length c7, .int .i64 s.line] := by
        have hown : ∀ b, G + 1 ≤ b → some b ≠ v'.ownBlock := fun b hb e => by
         obtain ⟨cs0, ho0, -⟩ := HBU.out
         have := (ho0.lt b e.symm).2
         omega
        have m1 : Moves (only wr (news (G + 1))) (only (W7.alloc (.cells #[.int .i64 s.op, .string s.name, .int .i64 y1.op, .int .i64 y1.n, .string y1.name, .string y1.field, .slice A1 y1.sub.length k1, .int .i64 y1.line, .int .i64 y2.op, .int .i64 y2.n, .string y2.name, .string y2.field, .slice A2 y2.sub.length k2, .int .i64 y2.line, .slice A3 zs.length k3, .slice ms.la s.labels.length ms.lk, .slice ms.fa s.fields.length ms.fk, .slice A7 bs.length c7, .int .i64 s.line] 63)) (orFree p H v')) := .onlyW (by simp; omega) fun b hl hp => by
         rw [news_iff] at hp
         refine ⟨by rw [orFree_iff]; exact .inr ⟨by omega, hown b hp⟩, ?_⟩
         rw [heap_alloc_old _ _ (by omega)]
         exact hne b (by omega)
        have m2 : Moves (only wr (oldP p H)) (only (W7.alloc (.cells #[.int .i64 s.op, .string s.name, .int .i64 y1.op, .int .i64 y1.n, .string y1.name, .string y1.field, .slice A1 y1.sub.length k1, .int .i64 y1.line, .int .i64 y2.op, .int .i64 y2.n, .string y2.name, .string y2.field, .slice A2 y2.sub.length k2, .int .i64 y2.line, .slice A3 zs.length k3, .slice ms.la s.labels.length ms.lk, .slice ms.fa s.fields.length ms.fk, .slice A7 bs.length c7, .int .i64 s.line] 63)) (orFree p H v')) := .onlyW (by simp; omega) fun b hl hp => by
         rw [oldP_iff] at hp
         refine ⟨by rw [orFree_iff]; exact .inl hp, ?_⟩
         rw [heap_alloc_old _ _ (by omega)]
         exact hne b (by omega)
        have m3 : Moves (only wr (orNew (oldP p H) W5.heap.size)) (only (W7.alloc (.cells #[.int .i64 s.op, .string s.name, .int .i64 y1.op, .int .i64 y1.n, .string y1.name, .string y1.field, .slice A1 y1.sub.length k1, .int .i64 y1.line, .int .i64 y2.op, .int .i64 y2.n, .string y2.name, .string y2.field, .slice A2 y2.sub.length k2, .int .i64 y2.line, .slice A3 zs.length k3, .slice ms.la s.labels.length ms.lk, .slice ms.fa s.fields.length ms.fk, .slice A7 bs.length c7, .int .i64 s.line] 63)) (orFree p H v')) := .onlyW (by simp; omega) fun b hl hp => by
         rw [orNew_iff, oldP_iff] at hp
         rw [orFree_iff, heap_alloc_old _ _ (by omega)]
         rcases hp with ⟨-, h⟩ | h
         ·exact ⟨.inl h, hne b (by omega)⟩
         ·exact ⟨.inr ⟨by omega, hown b (by omega)⟩, hne b (by omega)⟩
        rw [foldS_eq, HYS.out.1, HYS.out.2.1, HYS.out.2.2, HBS.out]
        exact StmAt.of (name := s.name) HOI.out.1 HOI.out.2 (HPVq.out.dst.move m1) (HPVq.out.src.move m1) (HPVq.out.conds.move m1) (HPVq.out.labels.move m2) (HPVq.out.fields.move m2) (RowB.move m3 HR7.out)
       obtain ⟨cs, hown, hcs⟩ := Built.below (Q := StmAt) (fun _ _ _ _ hm h => StmAt.move hm h) HBU.out hB7
       rw [foldSs_len, List.length_take, Nat.min_eq_left (by rw [HM.out]; omega)] at hown
       have HSM := Lib.hid hsm
       have HOWN := Lib.hid hown
       have HCS : Hid (CellsOf (StmAt (only (W7.alloc (.cells #[.int .i64 s.op, .string s.name, .int .i64 y1.op, .int .i64 y1.n, .string y1.name, .string y1.field, .slice A1 y1.sub.length k1, .int .i64 y1.line, .int .i64 y2.op, .int .i64 y2.n, .string y2.name, .string y2.field, .slice A2 y2.sub.length k2, .int .i64 y2.line, .slice A3 zs.length k3, .slice ms.la s.labels.length ms.lk, .slice ms.fa s.fields.length ms.fk, .slice A7 bs.length c7, .int .i64 s.line] 63)) (orFree p H v'))) 19 (foldSs opF (xs.take i)) cs) := Lib.hid (hcs.mono fun z c hz => StmAt.move (.onlyB (below_new (Below.refl _ _) (Nat.le_refl _) _) fun b _ h => h) hz)
       obtain ⟨i2, zz, hi2, hzz, hzs, jz1, jz2⟩ := stmt_parts
       have JI := Lib.hid hi2
       have JZ0 := Lib.hid hzz
       have JZS := Lib.hid hzs
       have JZ1 := Lib.hid jz1
       have JZ2 := Lib.hid jz2
       have HH7 := Lib.hid hh7
       have HB7 := Lib.hid (hbr.trans (hB7.mono hbr.size))
       have hzB := hB7.size
       clear hi2 jz1 jz2 hzz hzs hsm hown hcs hh7 hB7 hne hW7 hbr HPVq HR7 HBQ HX7 HTH7
       have hz7a : wr.heap.size ≤ W7.heap.size := by omega
       clear hz7
       go_wp2_with (first
        | refine wpList_load_row rfl 63 _ rfl G rfl 63 #[.int .i64 s.op, .string s.name, .int .i64 y1.op, .int .i64 y1.n, .string y1.name, .string y1.field, .slice A1 y1.sub.length k1, .int .i64 y1.line, .int .i64 y2.op, .int .i64 y2.n, .string y2.name, .string y2.field, .slice A2 y2.sub.length k2, .int .i64 y2.line, .slice A3 zs.length k3, .slice ms.la s.labels.length ms.lk, .slice ms.fa s.fields.length ms.fk, .slice A7 bs.length c7, .int .i64 s.line] (0, 0) _ HH7.out Tryd.underlying63 rfl stmt_size ?_
        | (at_builtin; refine wpList_append_lies _ rfl _ _ 23 rfl H 63 i2 zz 19 288 Tryd.underlying23 JI.out JZ0.out JZ1.out JZ2.out JZS.out (by decide) _ i _ rfl (HOWN.out.alloc _) ⟨W7.heap.size, 0, none⟩ 1 1 [.int .i64 s.op, .string s.name, .int .i64 y1.op, .int .i64 y1.n, .string y1.name, .string y1.field, .slice A1 y1.sub.length k1, .int .i64 y1.line, .int .i64 y2.op, .int .i64 y2.n, .string y2.name, .string y2.field, .slice A2 y2.sub.length k2, .int .i64 y2.line, .slice A3 zs.length k3, .slice ms.la s.labels.length ms.lk, .slice ms.fa s.fields.length ms.fk, .slice A7 bs.length c7, .int .i64 s.line] rfl rfl ?c24 ?c26 (by decide) ?c21 ?c22 ?c23 (W7.heap.size + 1) ?c25 ?_))
       case c24 =>
        intro q u hu
        have had : (⟨W7.heap.size, 0, none⟩ : Addr).add q = ⟨W7.heap.size, q, none⟩ := by cases q <;> simp [Addr.add]
        rw [had]
        exact heap_cell q _ (heap_alloc_new W7 _) (by rw [List.getElem?_toArray]; exact hu)
       case c26 => intro u hu; exact (List.all_eq_true.1 (by simp [Value.oneCell'] : ([.int .i64 s.op, .string s.name, .int .i64 y1.op, .int .i64 y1.n, .string y1.name, .string y1.field, .slice A1 y1.sub.length k1, .int .i64 y1.line, .int .i64 y2.op, .int .i64 y2.n, .string y2.name, .string y2.field, .slice A2 y2.sub.length k2, .int .i64 y2.line, .slice A3 zs.length k3, .slice ms.la s.labels.length ms.lk, .slice ms.fa s.fields.length ms.fk, .slice A7 bs.length c7, .int .i64 s.line] : List Value).all (·.oneCell') = true) u hu)
       case c21 => unfold maxLen; omega
       case c22 => omega
       case c23 => first | omega | (simp; omega)
       case c25 => simp
       intro g cap2 w2 hown2 hgrow hatg hg2
       have HBN : Hid (Built StmAt 63 19 p w2 H (foldSs opF (xs.take (i + 1))) (.slice (some ⟨g, 0, none⟩) (i + 1) cap2)) := Lib.hid (by
        rw [foldSs_snoc opF HY.out]
        exact Built.snoc (Q := StmAt) (fun _ _ _ _ hm h => StmAt.move hm h) HCS.out HSM.out rfl hown2 (by rw [foldSs_len, List.length_take, Nat.min_eq_left (by rw [HM.out]; omega)]) hgrow (hatg.imp id fun h => by rw [h]; simp) (fun b hb => (HOWN.out.lt b hb).1) (by simp; omega))
       have hbN : Below w.heap.size w w2 := below_grown (below_new HB7.out (by omega) _) hgrow (HOWN.out.alloc _) (by omega) (by simp; omega)
       clear hown2 hgrow hatg HSM HCS HOWN HBU
       go_wp2
       go_roundw
       case rel => exact ⟨i + 1, _, rfl, by omega, by go_num, HBN, hbN⟩
       case measure => simp [intOf]; omega
   ·obtain rfl : i = m := by omega
    have hbu := HBU.out
    rw [List.take_of_length_le (by rw [HM.out]; exact Nat.le_refl _)] at hbu
    obtain ⟨A1, c1, hv, hrow1⟩ := Built.row (Q := StmAt) (bytes := 288) (fun _ _ _ _ hm h => StmAt.move hm h) hbu (by rw [foldSs_len, HM.out]; exact hsb) (by decide)
    have HRES : Hid (StRes H p (foldSs opF xs) (.returned v') wr) := Lib.hid ⟨A1, c1, by rw [hv], hrow1⟩
    clear HBU hbu hv hrow1
    go_wp2
    go_ret
    exact ⟨HRES.out, by rw [← HH.out]; exact hbr⟩

end Go.Proofs.YtahjijdadifkaaaDoor

namespace Go.Proofs.YtahjijdadifkaaaDoor
open Go.RowKit
attribute [local go_sem] ite_max ite_min vite_max vite_min ext_cell ext_frozen

def RowI (w : World) (A : Option Addr) (zs : List Int) (cap : Nat) : Prop := RowOf w 1 8 (fun z c => c = [Value.int .i64 z] ∧ I64 z) A zs cap
theorem RowI.at {w : World} {A : Option Addr} {zs : List Int} {cap : Nat} (h : RowI w A zs cap) {i : Nat} (hi : i < zs.length) : ∃ b off z, A = some ⟨b, off, none⟩ ∧ b < w.heap.size ∧ zs[i]? = some z ∧ w.cell? ⟨b, off + i, none⟩ = some (.int .i64 z) := by
 obtain ⟨b, off, z, cs, hA, hb, hz, ⟨rfl, _⟩, hc⟩ := RowOf.at h hi
 refine ⟨b, off, z, hA, hb, hz, ?_⟩
 have := hc 0 (by omega)
 rwa [Nat.mul_one, Nat.add_zero] at this



end Go.Proofs.YtahjijdadifkaaaDoor

namespace Go.Proofs.YtahjijdadifkaaaDoor
open Go.RowKit
attribute [local go_sem] ite_max ite_min vite_max vite_min ext_cell ext_frozen extS_cell extS_frozen



end Go.Proofs.YtahjijdadifkaaaDoor

namespace Go.Proofs.YtahjijdadifkaaaDoor
open Go.RowKit

def isOne (u v : Value) (_ : World) : Prop := v = u ∧ True
theorem isOne.below {u v : Value} {w w' : World} (h : isOne u v w) (_ : Below w.heap.size w w') : isOne u v w' := h
theorem range_below {w w' : World} {b o : Nat} {cs : List Value} (h : w.rangeAt b o cs) (hb : Below w.heap.size w w') : w'.rangeAt b o cs := fun j v hv => by
 have := h j v hv
 exact (hb.cell (p := ⟨b, o + j, none⟩) (cell_lt this)).trans this

section
variable {P : Program} {md : Region.Mode} {l : List Oper} {Q : Exit → Act → World → Prop} {S : World → Prop} {fuel : Nat} {listed : Array Bool} {a : Act} {w : World} {i : Nat} {o : Oper}
theorem takeH {v : Value} (hi : l[i]? = some o) (hs : Region.noSelect l.toArray = true) (hf : Region.free md l.toArray listed i = true) (hr : (Region.ready md l.toArray listed).contains i = true)
  (hQ : ∀ c a w, Q (.panic c) (a.put o.dst v) w → Q (.panic c) a w) (hy : YieldsIf P l.toArray S o v a) (hS : S w)
  (h : wpAnyH P md l.toArray Q S fuel (listed.setIfInBounds i true) (a.put o.dst v) w) : wpAnyH P md l.toArray Q S (fuel + 1) listed a w :=
 wpAnyH_take (by simpa using hi) hs hf hr hQ hy hS h
theorem oneH (hr : Region.ready md l.toArray listed = [i]) (ho : l[i]? = some o)
  (h : ∀ K' : Act → World → Prop, Shut (∀ a w, S w → (S w → wpAnyH P md l.toArray Q S fuel (listed.setIfInBounds i true) a w) → K' a w) → if Region.wanted o (yielded l.toArray a.tmps) = true then Oper.wp P o a w K' Q else K' (a.put o.dst undef) w) :
  wpAnyH P md l.toArray Q S (fuel + 1) listed a w :=
 wpAnyH_ready hr (by simp) (AllReadyH.cons (by simpa using ho) h AllReadyH.nil)
end

def TwoR (w : World) (b1 o1 : Nat) (c1 : List Value) (b2 o2 : Nat) (c2 : List Value) : Prop := w.rangeAt b1 o1 c1 ∧ w.rangeAt b2 o2 c2
theorem TwoR.below {w w' : World} {b1 o1 : Nat} {c1 : List Value} {b2 o2 : Nat} {c2 : List Value} (h : TwoR w b1 o1 c1 b2 o2 c2) (hb : Below w.heap.size w w') : TwoR w' b1 o1 c1 b2 o2 c2 := ⟨range_below h.1 hb, range_below h.2 hb⟩

end Go.Proofs.YtahjijdadifkaaaDoor
