/- Merged: Layer 22: a layout as it is made: two rows of the call's own, held by a variable. Layer 22: Of, by the reference. PRINTED by wip/tool/mkof.py Layer 22: Of, by the program. PRINTED by wip/tool/mkof.py -/
import Derived.Test.YtknnhnefbbjcdaaDoorLayJ
import Derived.Test.YtknnhnefbbjcdaaDoorAppZ
import Derived.Laws.OwnMore
import Derived.Test.YtknnhnefbbjcdaaDoorLayK
namespace Go.Proofs.YtknnhnefbbjcdaaDoor
open Go.RowKit
set_option linter.unusedVariables false
set_option linter.unusedSimpArgs false

structure LayS (W : World) (L base : Nat) (zs fs : List Int) (c : Int) (vA vF : Value) : Prop where
 lt : L < W.heap.size
 lb : L < base
 l0 : W.cell? ⟨L, 0, none⟩ = some vA
 l1 : W.cell? ⟨L, 1, none⟩ = some (.int .i64 c)
 l2 : W.cell? ⟨L, 2, none⟩ = some vF
 f : ∀ o, W.frozen? ⟨L, o, none⟩ = false
 oA : W.ownsRow base 3 1 vA zs.length (intsV .i64 zs)
 oF : W.ownsRow base 2 1 vF fs.length (intsV .i64 fs)
 ap : ∀ b, vA.ownBlock = some b → vF.ownBlock ≠ some b
theorem LayS.below {W W' : World} {L base : Nat} {zs fs : List Int} {c : Int} {vA vF : Value} (h : LayS W L base zs fs c vA vF) (hb : Below W.heap.size W W') : LayS W' L base zs fs c vA vF :=
 ⟨Nat.lt_of_lt_of_le h.lt hb.size, h.lb, (hb.cell (p := ⟨L, 0, none⟩) h.lt).trans h.l0, (hb.cell (p := ⟨L, 1, none⟩) h.lt).trans h.l1, (hb.cell (p := ⟨L, 2, none⟩) h.lt).trans h.l2, fun o => (hb.frozen (p := ⟨L, o, none⟩) h.lt).trans (h.f o), owns_below h.oA hb, owns_below h.oF hb, h.ap⟩
theorem grown_at {w w' : World} {row : Option Nat} (hg : w.grownBy w' row) {p : Addr} (hp : p.block < w.heap.size) (hr : some p.block ≠ row) : w'.cell? p = w.cell? p ∧ w'.frozen? p = w.frozen? p :=
 ⟨World.cell?_of_block (hg.block _ hp hr), World.frozen?_of_block (hg.block _ hp hr)⟩
theorem own_ne {w : World} {base : Nat} {e : TypeId} {size : Nat} {v : Value} {n : Nat} {xs : List Value} (h : w.ownsRow base e size v n xs) {L : Nat} (hl : L < base) : some L ≠ v.ownBlock := fun he => by
 have := (h.lt L he.symm).1
 omega
theorem own_kept2 {w w' : World} {row : Option Nat} {base : Nat} {e : TypeId} {size : Nat} {v : Value} {n : Nat} {xs : List Value} (h : w.ownsRow base e size v n xs) (hg : w.grownBy w' row) (ha : ∀ b, row = some b → v.ownBlock ≠ some b) : w'.ownsRow base e size v n xs :=
 h.kept hg (by
  cases hv : v.ownBlock with
  | none => exact .inl rfl
  | some b =>
   refine .inr (fun he => ?_)
   exact ha b he.symm hv)
theorem own_row_size {w : World} {base : Nat} {e : TypeId} {size : Nat} {v : Value} {n : Nat} {xs : List Value} (h : w.ownsRow base e size v n xs) {b : Nat} (hb : v.ownBlock = some b) : b < w.heap.size := (h.lt b hb).2
theorem LayS.addA {W W1 W2 : World} {L base : Nat} {zs fs : List Int} {c z : Int} {vA vF v' : Value} (h : LayS W L base zs fs c vA vF) (h1 : Below W.heap.size W W1) (hg : W1.grownBy W2 vA.ownBlock)
  (ho : W2.ownsRow base 3 1 v' (zs.length + 1) (intsV .i64 zs ++ [.int .i64 z])) (hat : ∀ k, v'.ownBlock = some k → vA.ownBlock = some k ∨ k = W1.heap.size) :
  LayS (W2.setCell ⟨L, 0, none⟩ v') L base (zs ++ [z]) fs c v' vF := by
 have h' := h.below h1
 have hL : some L ≠ vA.ownBlock := own_ne h'.oA h.lb
 have hlt : L < W2.heap.size := Nat.lt_of_lt_of_le h'.lt hg.size
 have c0 := (grown_at hg (p := ⟨L, 0, none⟩) h'.lt hL).1.trans h'.l0
 have c1 := (grown_at hg (p := ⟨L, 1, none⟩) h'.lt hL).1.trans h'.l1
 have c2 := (grown_at hg (p := ⟨L, 2, none⟩) h'.lt hL).1.trans h'.l2
 have cf : ∀ o, W2.frozen? ⟨L, o, none⟩ = false := fun o => (grown_at hg (p := ⟨L, o, none⟩) h'.lt hL).2.trans (h'.f o)
 refine ⟨by simpa using hlt, h.lb, by go_simp, by go_simp, by go_simp, fun o => by have := cf o; go_simp, ?_, ?_, ?_⟩
 ·rw [show (zs ++ [z]).length = zs.length + 1 by simp, ← intsV_snoc]
  exact ownsRow_setCell_below ho h.lb _
 ·exact ownsRow_setCell_below (own_kept2 h'.oF hg h'.ap) h.lb _
 ·intro b hb he
  rcases hat b hb with h2 | h2
  ·exact h'.ap b h2 he
  ·have := own_row_size h'.oF he
   omega
theorem LayS.addF {W W1 W2 : World} {L base : Nat} {zs fs gs : List Int} {c : Int} {vA vF v' : Value} (h : LayS W L base zs fs c vA vF) (h1 : Below W.heap.size W W1) (hg : W1.grownBy W2 vF.ownBlock)
  (ho : W2.ownsRow base 2 1 v' (fs.length + gs.length) (intsV .i64 fs ++ intsV .i64 gs)) (hat : ∀ k, v'.ownBlock = some k → vF.ownBlock = some k ∨ k = W1.heap.size) :
  LayS (W2.setCell ⟨L, 2, none⟩ v') L base zs (fs ++ gs) c vA v' := by
 have h' := h.below h1
 have hL : some L ≠ vF.ownBlock := own_ne h'.oF h.lb
 have hlt : L < W2.heap.size := Nat.lt_of_lt_of_le h'.lt hg.size
 have c0 := (grown_at hg (p := ⟨L, 0, none⟩) h'.lt hL).1.trans h'.l0
 have c1 := (grown_at hg (p := ⟨L, 1, none⟩) h'.lt hL).1.trans h'.l1
 have c2 := (grown_at hg (p := ⟨L, 2, none⟩) h'.lt hL).1.trans h'.l2
 have cf : ∀ o, W2.frozen? ⟨L, o, none⟩ = false := fun o => (grown_at hg (p := ⟨L, o, none⟩) h'.lt hL).2.trans (h'.f o)
 refine ⟨by simpa using hlt, h.lb, by go_simp, by go_simp, by go_simp, fun o => by have := cf o; go_simp, ?_, ?_, ?_⟩
 ·exact ownsRow_setCell_below (own_kept2 h'.oA hg fun b hb he => h'.ap b he hb) h.lb _
 ·rw [show (fs ++ gs).length = fs.length + gs.length by simp, show intsV .i64 (fs ++ gs) = intsV .i64 fs ++ intsV .i64 gs by simp [intsV]]
  exact ownsRow_setCell_below ho h.lb _
 ·intro b hb he
  rcases hat b he with h2 | h2
  ·exact h'.ap b hb h2
  ·have := own_row_size h'.oA hb
   omega
theorem LayS.put {W : World} {L base : Nat} {zs fs : List Int} {c d : Int} {vA vF : Value} (h : LayS W L base zs fs c vA vF) : LayS (W.setCell ⟨L, 1, none⟩ (.int .i64 d)) L base zs fs d vA vF := by
 have c0 := h.l0
 have c1 := h.l1
 have c2 := h.l2
 have cf := h.f
 have hl := h.lt
 exact ⟨by simpa using h.lt, h.lb, by go_simp, by go_simp, by go_simp, fun o => by have := cf o; go_simp, ownsRow_setCell_below h.oA h.lb _, ownsRow_setCell_below h.oF h.lb _, h.ap⟩
theorem LayS.setF {W : World} {L base : Nat} {zs fs : List Int} {c : Int} {vA : Value} {g n k : Nat} (h : LayS W L base zs fs c vA (.slice (some ⟨g, 0, none⟩) n k)) (j : Nat) (x : Int) : LayS (W.setCell ⟨g, j, none⟩ (.int .i64 x)) L base zs (fs.set j x) c vA (.slice (some ⟨g, 0, none⟩) n k) := by
 have hL := own_ne h.oF h.lb
 have hne : ¬ L = g := fun e => hL (by simp [Value.ownBlock, e])
 have c0 := h.l0
 have c1 := h.l1
 have c2 := h.l2
 have cf := h.f
 have hl := h.lt
 have ho := h.oF
 have hn : n = fs.length := by
  rcases ho.2 with ⟨e, _⟩ | ⟨g', cap, cur, e, _⟩
  ·cases e
  ·cases e
   rfl
 subst hn
 refine ⟨by simpa using h.lt, h.lb, by go_simp, by go_simp, by go_simp, fun o => by have := cf o; go_simp, ?_, ?_, h.ap⟩
 ·exact ownsRow_setCell_other h.oA (fun he => h.ap g he rfl) _
 ·rw [List.length_set, show intsV .i64 (fs.set j x) = (intsV .i64 fs).set j (.int .i64 x) by simp [intsV, List.map_set]]
  exact (ho.stored j (.int .i64 x)).1
theorem firstV_rep (v : VarS) : firstV v = List.replicate (cellsN v) (if v.arr = false ∧ v.type ≤ 2 then v.init else 0) := by
 unfold firstV
 split
 ·rename_i h
  unfold cellsN
  rw [if_neg (by rw [h.1]; decide), if_neg (by omega)]
  rfl
 ·rfl
def LayR (w : World) (vs : List VarS) (v : Value) (w' : World) : Prop := ∃ vA vF, v = .agg #[vA, .int .i64 (sumN vs), vF] ∧ w'.ownsRow w.heap.size 3 1 vA vs.length (intsV .i64 (offsN 0 vs)) ∧ w'.ownsRow w.heap.size 2 1 vF (sumN vs) (intsV .i64 (firstsV vs))
theorem LayS.told {w W : World} {L base : Nat} {vs : List VarS} {vA vF : Value} (h : LayS W L base (offsN 0 vs) (firstsV vs) (sumN vs) vA vF) (hb : w.heap.size ≤ base) : LayR w vs (.agg #[vA, .int .i64 (sumN vs), vF]) W := by
 have h1 := owns_mono h.oA hb
 have h2 := owns_mono h.oF hb
 rw [offsN_len] at h1
 rw [firstsV_len] at h2
 exact ⟨vA, vF, rfl, h1, h2⟩

end Go.Proofs.YtknnhnefbbjcdaaDoor

namespace Go.Proofs.YtknnhnefbbjcdaaDoor
open Go.RowKit
set_option linter.unusedVariables false
set_option linter.unusedSimpArgs false
attribute [local go_sem] ite_max ite_min vite_max vite_min ext_cell ext_frozen extS_cell extS_frozen

def ResL (W : World) (E : Nat) : Prop := E < W.heap.size ∧ W.cell? ⟨E, 0, none⟩ = some (.slice none 0 0) ∧ W.cell? ⟨E, 1, none⟩ = some (.int .i64 0) ∧ W.cell? ⟨E, 2, none⟩ = some (.slice none 0 0) ∧ ∀ o, W.frozen? ⟨E, o, none⟩ = false
theorem ResL.low {W W' : World} {E K : Nat} (h : ResL W E) (hk : E < K) (hb : Below K W W') : ResL W' E :=
 ⟨Nat.lt_of_lt_of_le h.1 hb.size, (hb.cell (p := ⟨E, 0, none⟩) hk).trans h.2.1, (hb.cell (p := ⟨E, 1, none⟩) hk).trans h.2.2.1, (hb.cell (p := ⟨E, 2, none⟩) hk).trans h.2.2.2.1, fun o => (hb.frozen (p := ⟨E, o, none⟩) hk).trans (h.2.2.2.2 o)⟩
theorem LayS.start {W : World} {L base : Nat} (hl : L < W.heap.size) (hlb : L < base) (c0 : W.cell? ⟨L, 0, none⟩ = some (.slice none 0 0)) (c1 : W.cell? ⟨L, 1, none⟩ = some (.int .i64 0)) (c2 : W.cell? ⟨L, 2, none⟩ = some (.slice none 0 0)) (cf : ∀ o, W.frozen? ⟨L, o, none⟩ = false) : LayS W L base [] [] 0 (.slice none 0 0) (.slice none 0 0) :=
 ⟨hl, hlb, c0, c1, c2, cf, World.ownsRow_nil _ _ _ _, World.ownsRow_nil _ _ _ _, fun b hb => by cases hb⟩
theorem own_slice {w : World} {base : Nat} {e : TypeId} {v : Value} {n : Nat} {xs : List Value} (h : w.ownsRow base e 1 v n xs) : ∃ A c, v = .slice A n c := by
 rcases h.2 with ⟨rfl, hn⟩ | ⟨g, cap, cur, rfl, _⟩
 ·exact ⟨none, 0, by rw [hn]⟩
 ·exact ⟨_, _, rfl⟩
theorem firstsV_few {vs : List VarS} {i : Nat} (h : ∀ v ∈ vs, cellsN v ≤ 256) (hi : i ≤ vs.length) : (firstsV (vs.take i)).length ≤ 256 * i := by
 rw [firstsV_len]
 induction i with
 | zero => simp [sumN]
 | succ i ih =>
  have hx : vs[i]? = some vs[i] := List.getElem?_eq_getElem (by omega)
  rw [sumN_take hx]
  have := h vs[i] (List.getElem_mem _)
  have := ih (by omega)
  omega



end Go.Proofs.YtknnhnefbbjcdaaDoor

namespace Go.Proofs.YtknnhnefbbjcdaaDoor
open Go.RowKit
set_option linter.unusedVariables false
set_option linter.unusedSimpArgs false
attribute [local go_sem] ite_max ite_min vite_max vite_min ext_cell ext_frozen extS_cell extS_frozen

set_option maxRecDepth 100000 in
set_option maxHeartbeats 4000000 in
theorem layof_any (p : Prg) (cs : List Value) (w : World) (h : PrgAt w p cs) (hfit : ∀ v ∈ p.vars, ArrOk v) (hn64 : p.vars.length ≤ 64) (ht : Blanks w) : Calls Tryd.prog 6 #[.agg cs.toArray] w fun e w' => (∃ v, e = .returned v ∧ LayR w p.vars v w') ∧ Below w.heap.size w w' := by
 have hinf : (Tryd.prog.info? 2).map (fun i => (i.zero, i.size, i.bytes)) = some (some (.int .i64 0), 1, 8) := by kernel_rfl
 obtain ⟨i0, hi0, hz0, hz1, hz2⟩ := info_parts hinf
 have HI := Lib.hid hi0
 have HZ0 := Lib.hid hz0
 have HZ1 := Lib.hid hz1
 have HZ2 := Lib.hid hz2
 have hinf2 : (Tryd.prog.info? 3).map (fun i => (i.zero, i.size, i.bytes)) = some (some (.int .i64 0), 1, 8) := by kernel_rfl
 obtain ⟨i1, hi1, hy0, hy1, hy2⟩ := info_parts hinf2
 have HI1 := Lib.hid hi1
 have HY0 := Lib.hid hy0
 have HY1 := Lib.hid hy1
 have HY2 := Lib.hid hy2
 clear hinf hinf2 hi0 hz0 hz1 hz2 hi1 hy0 hy1 hy2
 obtain ⟨Av, kv, Ab, kb, rfl, hv, hbd⟩ := h
 have HRV := Lib.hid hv
 have hv1 := hv.1
 have hv2 := hv.2.1
 obtain ⟨n, hn⟩ : ∃ n, p.vars.length = n := ⟨_, rfl⟩
 obtain ⟨nb, hnb⟩ : ∃ n, p.body.length = n := ⟨_, rfl⟩
 have HCE : Hid (∀ v ∈ p.vars, ∀ W, Below w.heap.size w W → Calls Tryd.prog 14 #[.agg v.cells.toArray] W fun e w' => e = .returned (.int .i64 (cellsN v)) ∧ Below W.heap.size W w') := Lib.hid (fun v hvm W hW => kcells_any v (hfit v hvm) W (ht.on hW))
 have HFE : Hid (∀ v ∈ p.vars, cellsN v ≤ 256) := Lib.hid (fun v hvm => cellsN_few (hfit v hvm))
 rw [hn] at hv1 hn64
 have HN := Lib.hid hn
 show Calls Tryd.prog 6 #[.agg #[.string p.name, .slice Av p.vars.length kv, .slice Ab p.body.length kb]] w _
 rw [hn, hnb]
 clear hv hbd hfit hn hnb ht
 go_enter Tryd.func6, Tryd.ntmps6
 go_upto_region 2 with (fail)
 refine wp_name fun W hW => ?_
 obtain ⟨B, hB⟩ : ∃ B, B = w.heap.size := ⟨_, rfl⟩
 have hB1 : B + 1 = w.heap.size + 1 := by omega
 have hB2 : B + 2 = w.heap.size + 1 + 1 := by omega
 have hp1 : W.cell? ⟨B, 1, none⟩ = some (.slice Av n kv) := by rw [hW.out, hB]; go_simp
 have hR : ResL W (B + 1) := by
  refine ⟨by rw [hW.out, hB]; simp, ?_, ?_, ?_, fun o => ?_⟩
  all_goals (rw [hW.out, hB1]; go_simp)
 have hL : LayS W (B + 2) (B + 3) [] [] 0 (.slice none 0 0) (.slice none 0 0) := by
  refine LayS.start (by rw [hW.out, hB]; simp) (by omega) ?_ ?_ ?_ (fun o => ?_)
  all_goals (rw [hW.out, hB2]; go_simp)
 have hbel : Below w.heap.size w W := by rw [hW.out]; exact belowBy
 have hsz : W.heap.size = B + 3 := by rw [hW.out, hB]; simp
 rw [show w.heap.size + 1 + 1 = B + 2 by omega, show w.heap.size + 1 = B + 1 by omega, ← hB]
 have HR := Lib.hid hR
 have HL := Lib.hid hL
 have HB := Lib.hid hbel
 have HP1 := Lib.hid hp1
 have hwB : w.heap.size ≤ B := by omega
 have hBw : B ≤ w.heap.size := by omega
 clear hW hR hL hbel hp1 hB hB1 hB2
 have hp1 := HP1.out
 have lB : B < W.heap.size := by omega
 go_upto_region 3 with (fail)
 clear hp1 lB
 go_loopw [10] (fun vi wr => ∃ (i : Nat) (vA vF : Value), i ≤ n ∧ vi = .int .i64 i ∧ Hid (LayS wr (B + 2) (B + 3) (offsN 0 (p.vars.take i)) (firstsV (p.vars.take i)) (sumN (p.vars.take i) : Int) vA vF) ∧ Below (B + 2) W wr) (fun vi _ => n - (intOf vi).toNat)
 case atStart => exact ⟨0, _, _, by omega, rfl, HL, Below.refl _ _⟩
 case round =>
  obtain ⟨i, vA, vF, hi, rfl, HS, hbr⟩ := hrel
  have HBr := Lib.hid hbr
  have HWr := Lib.hid (HB.out.trans (hbr.mono (by omega)))
  have hsr : B + 3 ≤ wr.heap.size := by have := hbr.size; omega
  have p1 := (hbr.cell (p := ⟨B, 1, none⟩) (by show B < _; omega)).trans HP1.out
  have lB : B < wr.heap.size := by omega
  clear hbr
  by_cases hlt : i < n
  ·obtain ⟨b, off, v, rfl, hbl, hx, hrg⟩ := RowV.at8 (HRV.out.below HWr.out) (i := i) (by rw [HN.out]; exact hlt)
   have hi0 : (0 : Int) ≤ (i : Int) ∧ (i : Int) < (n : Int) := by omega
   have HX := Lib.hid hx
   have HRG := Lib.hid hrg
   clear hx hrg
   obtain ⟨A0, k0, hvA⟩ := own_slice HS.out.oA
   obtain ⟨A1, k1, hvF⟩ := own_slice HS.out.oF
   have hzl : (offsN 0 (p.vars.take i)).length = i := by rw [offsN_len, List.length_take, HN.out]; omega
   obtain ⟨fl, hfl⟩ : ∃ x, (firstsV (p.vars.take i)).length = x := ⟨_, rfl⟩
   have hfs : fl = sumN (p.vars.take i) := by rw [← hfl, firstsV_len]
   have hff : fl ≤ 256 * i := by rw [← hfl]; exact firstsV_few HFE.out (by rw [HN.out]; omega)
   rw [hzl] at hvA
   rw [hfl] at hvF
   subst hvA hvF
   have HZL := Lib.hid hzl
   have HFL := Lib.hid hfl
   have HFS := Lib.hid hfs
   clear hzl hfl hfs
   have hoA := HS.out.oA
   rw [HZL.out] at hoA
   have HOA := Lib.hid hoA
   clear hoA
   go_upto_region 5 with (first | refine wpList_load_mid rfl 45 _ rfl b (off + i * 8) rfl v.cells _ HRG.out Tryd.underlying45 rfl var_size8 ?_ | refine wpList_store_new rfl 45 _ _ rfl wr _ v.cells.toArray rfl rfl rfl var_size8 rfl (var_one8 v) ?_)
   refine wp_name fun W1 hW1 => ?_
   obtain ⟨V, hV⟩ : ∃ V, V = wr.heap.size := ⟨_, rfl⟩
   have hh : W1.heap[V]? = some (.cells v.cells.toArray 45) := by rw [hW1.out, hV]; exact heap_alloc_new _ _
   have hb1 : Below wr.heap.size wr W1 := by rw [hW1.out]; exact belowBy
   have hs1 : W1.heap.size = V + 1 := by rw [hW1.out, hV]; simp
   rw [← hV]
   have HZS := Lib.hid hs1
   have HH := Lib.hid hh
   have HS1 := Lib.hid (HS.out.below hb1)
   have HB1 := Lib.hid (HBr.out.trans (hb1.mono (by omega)))
   have HOA1 := Lib.hid (owns_below HOA.out hb1)
   have hVr := hV
   have hB3V : B + 3 ≤ V := by omega
   have HVA : Hid (∀ k, (Value.slice A0 i k0).ownBlock = some k → k < V) := Lib.hid (fun k hk => by rw [hVr]; exact (HOA.out.lt k hk).2)
   have HVF : Hid (∀ k, (Value.slice A1 fl k1).ownBlock = some k → k < V) := Lib.hid (fun k hk => by rw [hVr]; exact (HS.out.oF.lt k hk).2)
   clear hW1 hh hb1 hV hVr HRG HOA HS HBr hbl p1 lB HWr hs1
   have l0 := HS1.out.l0
   have l1 := HS1.out.l1
   have l2 := HS1.out.l2
   have lf := HS1.out.f
   have ll := HS1.out.lt
   rw [← HFS.out] at l1
   go_wp2_with (at_builtin; refine wpList_append_lies _ rfl _ _ 31 rfl (B + 3) 3 i1 (.int .i64 0) 1 8 Tryd.underlying31 HI1.out HY0.out HY1.out HY2.out rfl (by decide) _ i _ rfl (HOA1.out.alloc _) ⟨W1.heap.size, 0, none⟩ 1 1 [.int .i64 fl] rfl rfl (World.news_of_block (heap_alloc_new _ _)) (one_cell _ rfl) ?c1 ?c2 ?c3 ?c4 _ rfl ?_)
   all_goals have hs1 := HZS.out
   case c1 => omega
   case c2 => unfold maxLen; omega
   case c3 => omega
   case c4 => simp; omega
   intro g c w5 hown5 hgrow hat hlt5
   have hbB : Below W1.heap.size W1 (W1.alloc (.cells #[.int .i64 fl] 3)) := below_new (Below.refl _ _) (Nat.le_refl _) _
   have hS5 := HS1.out.addA (z := fl) hbB hgrow (by rw [HZL.out]; exact hown5) (fun k hk => by have : g = k := (by simpa [Value.ownBlock] using hk); subst this; rcases hat with h | h; exact Or.inl h; exact Or.inr (by rw [h]; simp))
   have hBg : Below (B + 2) W w5 := below_grown (HB1.out.trans (hbB.mono (by omega))) hgrow (HOA1.out.alloc _) (by omega) (by simp; omega)
   have hne : some V ≠ (Value.slice A0 i k0).ownBlock := fun he => by have := HVA.out V he.symm; omega
   have hh5 : w5.heap[V]? = some (.cells v.cells.toArray 45) := ((hgrow.block V (by simp; omega) hne).trans (heap_alloc_old _ _ (by omega))).trans HH.out
   have hgV : g ≠ V := by rintro rfl; rcases hat with h | h; exact hne h.symm; first | omega | (simp at h; omega)
   have hs5 : V + 2 ≤ w5.heap.size := by have := hgrow.size; simp at this; omega
   have hLA : some (B + 2) ≠ (Value.slice A0 i k0).ownBlock := own_ne HOA1.out (by omega)
   have m0 : w5.cell? ⟨B + 2, 0, none⟩ = some (.slice A0 i k0) := ((grown_at hgrow (p := ⟨B + 2, 0, none⟩) (by simp; omega) hLA).1.trans (hbB.cell (p := ⟨B + 2, 0, none⟩) (by show B + 2 < _; omega))).trans l0
   have mf : w5.frozen? ⟨B + 2, 0, none⟩ = false := ((grown_at hgrow (p := ⟨B + 2, 0, none⟩) (by simp; omega) hLA).2.trans (hbB.frozen (p := ⟨B + 2, 0, none⟩) (by show B + 2 < _; omega))).trans (lf 0)
   have ml : B + 2 < w5.heap.size := by omega
   have HS5 := Lib.hid hS5
   have HBg := Lib.hid hBg
   have HH5 := Lib.hid hh5
   clear hS5 hBg hh5 hown5 hgrow hat hlt5 hbB hne hLA HOA1 HH HS1 HB1 HVA
   clear l0 l1 l2 lf ll
   go_upto_region 6 with (fail)
   refine wp_name fun W6 hW6 => ?_
   have HS6 : Hid (LayS W6 (B + 2) (B + 3) (offsN 0 (p.vars.take i) ++ [(fl : Int)]) (firstsV (p.vars.take i)) (sumN (p.vars.take i) : Int) (.slice (some ⟨g, 0, none⟩) (i + 1) c) (.slice A1 fl k1)) := by rw [hW6.out]; exact HS5
   have hB6 : Below (B + 2) W W6 := by rw [hW6.out]; exact HBg.out.setCell (Nat.le_refl _) _
   have hh6 : W6.heap[V]? = some (.cells v.cells.toArray 45) := by rw [hW6.out]; exact (Below.heap_setCell _ _ _ _ (by show V ≠ B + 2; omega)).trans HH5.out
   have hs6 : W6.heap.size = w5.heap.size := by rw [hW6.out]; simp
   have HB6 := Lib.hid hB6
   have HH6 := Lib.hid hh6
   have hzs : offsN 0 (p.vars.take (i + 1)) = offsN 0 (p.vars.take i) ++ [(fl : Int)] := by rw [offsN_take HX.out, HFS.out]
   rw [← hzs] at HS6
   clear hzs hW6 hB6 hh6 m0 mf ml HS5 HBg HH5
   have HVR : Hid (W6.rangeAt V 0 v.cells) := Lib.hid (fun j u hu => by rw [Nat.zero_add]; exact heap_cell j _ HH6.out (by rw [List.getElem?_toArray]; exact hu))
   go_wp2_with (refine wpList_load_mid rfl 45 _ rfl V 0 rfl v.cells _ HVR.out Tryd.underlying45 rfl var_size8 ?_)
   refine (HCE.out v (List.mem_of_getElem? HX.out) _ (HB.out.trans (HB6.out.mono (by omega)))).mono ?_
   rintro e w7 ⟨rfl, hb7⟩
   obtain ⟨cv, hcv⟩ : ∃ x, cellsN v = x := ⟨_, rfl⟩
   have hcv2 : cv ≤ 256 := by rw [← hcv]; exact HFE.out v (List.mem_of_getElem? HX.out)
   rw [hcv]
   have HCV := Lib.hid hcv
   clear hcv
   have hs7 := hb7.size
   have HS7 := Lib.hid (HS6.out.below hb7)
   have HB7 := Lib.hid (HB6.out.trans (hb7.mono (by omega)))
   have HH7 := Lib.hid ((hb7.block V (by omega)).trans HH6.out)
   obtain ⟨ty, hty⟩ : ∃ t, v.type = t := ⟨_, rfl⟩
   obtain ⟨ar, har⟩ : ∃ t, v.arr = t := ⟨_, rfl⟩
   obtain ⟨ini, hini⟩ : ∃ t, v.init = t := ⟨_, rfl⟩
   have HD : Hid (∀ W' : World, W'.heap[V]? = some (.cells v.cells.toArray 45) → W'.cell? ⟨V, 1, none⟩ = some (.int .i64 ty) ∧ W'.cell? ⟨V, 3, none⟩ = some (.bool ar) ∧ W'.cell? ⟨V, 6, none⟩ = some (.int .i64 ini) ∧ V < W'.heap.size) := Lib.hid (fun W' h' => ⟨by rw [← hty]; exact heap_cell 1 _ h' rfl, by rw [← har]; exact heap_cell 3 _ h' rfl, by rw [← hini]; exact heap_cell 6 _ h' rfl, (Array.getElem?_eq_some_iff.1 h').1⟩)
   have HFV : Hid (firstV v = List.replicate cv (if ar = false ∧ ty ≤ 2 then ini else 0)) := Lib.hid (by rw [firstV_rep, HCV.out, hty, har, hini])
   have HCN : Hid (cv = (if ar = true then cv else if 2 < ty then cv else 1)) := Lib.hid (by rw [← HCV.out]; unfold cellsN; rw [har, hty]; cases ar <;> simp; omega)
   have HV1 : Hid ((Value.slice A1 fl k1).ownBlock ≠ some V) := Lib.hid (fun he => by have := HVF.out V he; omega)
   clear hty har hini hb7 HS6 HB6 HH6 HVR HVF
   have l0 := HS7.out.l0
   have l1 := HS7.out.l1
   have l2 := HS7.out.l2
   have lf := HS7.out.f
   have ll := HS7.out.lt
   rw [← HFS.out] at l1
   go_upto_region 8 with (fail)
   refine wp_name fun W8 hW8 => ?_
   have HS8 : Hid (LayS W8 (B + 2) (B + 3) (offsN 0 (p.vars.take (i + 1))) (firstsV (p.vars.take i)) ((fl : Int) + cv) (.slice (some ⟨g, 0, none⟩) (i + 1) c) (.slice A1 fl k1)) := by rw [hW8.out]; exact Lib.hid HS7.out.put
   have hB8 : Below (B + 2) W W8 := by rw [hW8.out]; exact HB7.out.setCell (Nat.le_refl _) _
   have hh8 : W8.heap[V]? = some (.cells v.cells.toArray 45) := by rw [hW8.out]; exact (Below.heap_setCell _ _ _ _ (by show V ≠ B + 2; omega)).trans HH7.out
   have HB8 := Lib.hid hB8
   have HH8 := Lib.hid hh8
   clear hB8 hh8 hW8 HS7 HB7 HH7
   clear l0 l1 l2 lf ll
   have l0 := HS8.out.l0
   have l1 := HS8.out.l1
   have l2 := HS8.out.l2
   have lf := HS8.out.f
   have ll := HS8.out.lt
   have hoF := HS8.out.oF
   rw [HFL.out] at hoF
   have HOF := Lib.hid hoF
   have hs8 : V + 1 ≤ W8.heap.size := (Array.getElem?_eq_some_iff.1 HH8.out).1
   clear hoF
   go_wp2_with (at_builtin; refine wpList_append_own_zeros _ rfl _ _ 26 3 rfl (B + 3) 2 i0 (.int .i64 0) 8 .i64 .i64 Tryd.underlying26 Tryd.underlying3 HI.out HZ0.out HZ1.out HZ2.out rfl rfl _ fl _ rfl HOF.out cv rfl ?_ ?_ ?_ ?_)
   any_goals (first | omega | (unfold maxLen; omega) | (simp; omega))
   intro vF' w9 hown9 hgrow hat
   obtain ⟨A9, k9, hv9⟩ := own_slice hown9
   subst hv9
   have hS9 := HS8.out.addF (gs := List.replicate cv 0) (Below.refl _ _) hgrow (by rw [HFL.out, List.length_replicate]; simpa [intsV] using hown9) hat
   have hB9 : Below (B + 2) W w9 := below_grown HB8.out hgrow HOF.out (by omega) (by omega)
   have hne : some V ≠ (Value.slice A1 fl k1).ownBlock := fun he => HV1.out he.symm
   have hh9 : w9.heap[V]? = some (.cells v.cells.toArray 45) := (hgrow.block V (by omega) hne).trans HH8.out
   have hgV2 : (Value.slice A9 (fl + cv) k9).ownBlock ≠ some V := by intro he; rcases hat V he with h | h; exact hne h.symm; omega
   have hs9 : W8.heap.size ≤ w9.heap.size := hgrow.size
   have hLF : some (B + 2) ≠ (Value.slice A1 fl k1).ownBlock := own_ne HOF.out (by omega)
   have m2 : w9.cell? ⟨B + 2, 2, none⟩ = some (.slice A1 fl k1) := (grown_at hgrow (p := ⟨B + 2, 2, none⟩) (by show B + 2 < _; omega) hLF).1.trans l2
   have mf : w9.frozen? ⟨B + 2, 2, none⟩ = false := (grown_at hgrow (p := ⟨B + 2, 2, none⟩) (by show B + 2 < _; omega) hLF).2.trans (lf 2)
   have ml : B + 2 < w9.heap.size := by omega
   have HS9 := Lib.hid hS9
   have HB9 := Lib.hid hB9
   have HH9 := Lib.hid hh9
   have HG2 := Lib.hid hgV2
   clear hS9 hB9 hh9 hown9 hgrow hat hne hLF hgV2 HOF HS8 HB8 HH8
   clear l0 l1 l2 lf ll
   go_upto_region 9 with (fail)
   refine wp_name fun W9 hW9 => ?_
   have HS : Hid (LayS W9 (B + 2) (B + 3) (offsN 0 (p.vars.take (i + 1))) (firstsV (p.vars.take i) ++ List.replicate cv 0) ((fl : Int) + cv) (.slice (some ⟨g, 0, none⟩) (i + 1) c) (.slice A9 (fl + cv) k9)) := by rw [hW9.out]; exact HS9
   have hB9 : Below (B + 2) W W9 := by rw [hW9.out]; exact HB9.out.setCell (Nat.le_refl _) _
   have hh9 : W9.heap[V]? = some (.cells v.cells.toArray 45) := by rw [hW9.out]; exact (Below.heap_setCell _ _ _ _ (by show V ≠ B + 2; omega)).trans HH9.out
   have HBr := Lib.hid hB9
   obtain ⟨v1, v3, v6, lV⟩ := HD.out W9 hh9
   clear hW9 hB9 hh9 HS9 HB9 HH9 m2 mf ml
   have hsum : (sumN (p.vars.take (i + 1)) : Int) = (fl : Int) + cv := by rw [sumN_take HX.out, HCV.out, ← HFS.out]; omega
   have HSUM := Lib.hid hsum
   clear hsum
   cases ar
   ·by_cases h3 : ty ≤ 2
    ·obtain rfl : cv = 1 := by have := HCN.out; simp only [Bool.false_eq_true, if_false] at this; rw [if_neg (by omega)] at this; exact this
     obtain ⟨g2, c2, hf2, -, -⟩ := HS.out.oF.form (by rw [List.length_append]; simp)
     rw [List.length_append, HFL.out, List.length_replicate] at hf2
     injection hf2 with hf2 _ hf3
     subst hf2 hf3
     have l0 := HS.out.l0
     have l1 := HS.out.l1
     have l2 := HS.out.l2
     have lf := HS.out.f
     have ll := HS.out.lt
     have hgl := HS.out.oF.lt g2 rfl
     have w0 : ∃ u, W9.cell? ⟨g2, fl, none⟩ = some u := by
      have hc := HS.out.oF.cells (g := g2) rfl fl (.int .i64 0) (by simp [intsV, List.getElem?_append, HFL.out])
      have hadd : (⟨g2, 0, none⟩ : Addr).add fl = ⟨g2, fl, none⟩ := by cases fl <;> simp [Addr.add]
      rw [hadd] at hc
      exact ⟨_, hc⟩
     obtain ⟨u0, w0⟩ := w0
     have wf : W9.frozen? ⟨g2, fl, none⟩ = false := by have h9 := HS.out.oF; rw [List.length_append, HFL.out, List.length_replicate] at h9; exact h9.frozenAt fl
     have hidx : (0 : Int) ≤ (fl : Int) + 1 - 1 ∧ (fl : Int) + 1 - 1 < ((fl + 1 : Nat) : Int) := by omega
     have hlg : g2 < W9.heap.size := hgl.2
     have hfin : firstsV (p.vars.take (i + 1)) = (firstsV (p.vars.take i) ++ List.replicate 1 0).set fl ini := by rw [firstsV_take HX.out, HFV.out, if_pos ⟨rfl, by omega⟩, List.set_append_right _ _ (by rw [HFL.out]; exact Nat.le_refl _), HFL.out]; simp
     have HFN := Lib.hid hfin
     clear hfin
     go_upto_region 11 with (fail)
     refine wp_name fun W10 hW10 => ?_
     have HS10 : Hid (LayS W10 (B + 2) (B + 3) (offsN 0 (p.vars.take (i + 1))) (firstsV (p.vars.take (i + 1))) (sumN (p.vars.take (i + 1))) (.slice (some ⟨g, 0, none⟩) (i + 1) c) (.slice (some ⟨g2, 0, none⟩) (fl + 1) k9)) := by rw [hW10.out, HFN.out, HSUM.out]; exact Lib.hid (HS.out.setF fl ini)
     have hB10 : Below (B + 2) W W10 := by rw [hW10.out]; exact HBr.out.setCell (by show B + 2 ≤ g2; omega) _
     have HB10 := Lib.hid hB10
     clear hW10 hB10 w0 wf l0 l1 l2 lf ll
     go_wp2
     go_roundw
     case rel => exact ⟨i + 1, _, _, by omega, by go_num, HS10, HB10.out⟩
     case measure => simp [intOf]; omega
    ·have hfin : firstsV (p.vars.take (i + 1)) = firstsV (p.vars.take i) ++ List.replicate cv 0 := by rw [firstsV_take HX.out, HFV.out, if_neg (by first | (simp; done) | (simp; omega))]
     rw [← hfin, ← HSUM.out] at HS
     clear hfin
     go_wp2
     go_roundw
     case rel => exact ⟨i + 1, _, _, by omega, by go_num, HS, HBr.out⟩
     case measure => simp [intOf]; omega
   ·have hfin : firstsV (p.vars.take (i + 1)) = firstsV (p.vars.take i) ++ List.replicate cv 0 := by rw [firstsV_take HX.out, HFV.out, if_neg (by first | (simp; done) | (simp; omega))]
    rw [← hfin, ← HSUM.out] at HS
    clear hfin
    go_wp2
    go_roundw
    case rel => exact ⟨i + 1, _, _, by omega, by go_num, HS, HBr.out⟩
    case measure => simp [intOf]; omega
  ·obtain rfl : i = n := by omega
   have l0 := HS.out.l0
   have l1 := HS.out.l1
   have l2 := HS.out.l2
   have lf := HS.out.f
   have ll := HS.out.lt
   obtain ⟨A0, k0, hvA⟩ := own_slice HS.out.oA
   obtain ⟨A1, k1, hvF⟩ := own_slice HS.out.oF
   have hr := HR.out.low (by omega) HBr.out
   obtain ⟨rl, r0, r1, r2, rf⟩ := hr
   have htk : p.vars.take i = p.vars := List.take_of_length_le (by rw [HN.out]; exact Nat.le_refl _)
   rw [htk] at HS hvA hvF l1
   rw [firstsV_len] at hvF
   rw [offsN_len] at hvA
   subst hvA hvF
   have HTK := Lib.hid htk
   obtain ⟨sm, hsm⟩ : ∃ x, sumN p.vars = x := ⟨_, rfl⟩
   rw [hsm] at l2 l1
   have HSM := Lib.hid hsm
   clear hsm htk
   go_wp2
   refine bodyPost_ret (v := .agg #[.slice A0 p.vars.length k0, .int .i64 sm, .slice A1 sm k1]) (by simp [results, Tryd.results6, go_sem, r0, r1, r2, rf, rl]) rfl ⟨⟨_, rfl, ?_⟩, ?_⟩
   ·refine ⟨_, _, by rw [HSM.out], ?_, ?_⟩
    ·have h9 := HS.out.oA
     rw [offsN_len] at h9
     refine owns_mono (base := B + 3) ?_ (by omega)
     repeat (with_reducible refine ownsRow_setCell_below ?_ (by show B + 1 < B + 3; omega) _)
     exact h9
    ·have h9 := HS.out.oF
     rw [firstsV_len, HSM.out] at h9
     rw [HSM.out]
     refine owns_mono (base := B + 3) ?_ (by omega)
     repeat (with_reducible refine ownsRow_setCell_below ?_ (by show B + 1 < B + 3; omega) _)
     exact h9
   ·have hq := HB.out.trans (HBr.out.mono (by omega))
    exact belowBy

end Go.Proofs.YtknnhnefbbjcdaaDoor
