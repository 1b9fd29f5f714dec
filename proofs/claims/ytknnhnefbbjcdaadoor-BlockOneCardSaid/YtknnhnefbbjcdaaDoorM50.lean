/- Merged: Layer 22: where a variable begins, in both. Layer 22: where a variable begins, by the program. Layer 22: where a pin stands, by the reference. Layer 22: where a pin stands, by the program. -/
import Derived.Test.YtknnhnefbbjcdaaDoorM43
import Derived.Test.YtknnhnefbbjcdaaDoorM02
import Derived.Test.YtknnhnefbbjcdaaDoorM45
namespace Go.Proofs.YtknnhnefbbjcdaaDoor
open Go.RowKit
set_option linter.unusedVariables false
set_option linter.unusedSimpArgs false
attribute [local go_sem] ite_max ite_min vite_max vite_min ext_cell ext_frozen extS_cell extS_frozen

theorem heap_alloc_at {w : World} {o : Obj} {k : Nat} (h : w.heap.size = k) : (w.alloc o).heap[k]? = some o := h ▸ heap_alloc_new w o
def atO : Option (Nat × VarS) → Value
 | some (a, v) => .tuple #[.int .i64 a, .agg v.cells.toArray, .bool true]
 | none => .tuple #[.int .i64 0, .agg varZs, .bool false]
theorem post_tmp_row_tmp {P : Program} {fn : Func} {R : Ending → World → Prop} {a : Act} {w : World} {p q r : Tmp} {ty : TypeId} {g : Nat} {t : TypeId} {cs : Array Value} {fr : Nat × Nat} {d : TypeDesc} (h : fn.results = #[.tmp r, .cell p ty, .tmp q])
  (hp : a.tmps.getD p undef = .pointer (some ⟨g, 0, none⟩)) (hg : w.heap[g]? = some (.cells cs t fr)) (hu : P.underlying ty = some d) (hd : (match d with | .struct _ | .array _ _ => true | _ => false) = true) (hi : (P.info? ty).map (·.size) = some cs.size)
  (hdf : a.defers = []) (hR : R (.returned (.tuple #[a.tmps.getD r undef, .agg cs, a.tmps.getD q undef])) w) : bodyPost P fn R .ret a w := bodyPost_ret (by
 have hp' : a.tmps[p]?.getD undef = .pointer (some ⟨g, 0, none⟩) := by simpa using hp
 simp [results, h, hp', asAddr, run_loadVar_row w g t ty cs fr d hg hu hd hi]) hdf hR



end Go.Proofs.YtknnhnefbbjcdaaDoor

namespace Go.Proofs.YtknnhnefbbjcdaaDoor
open Go.RowKit
set_option linter.unusedVariables false
set_option linter.unusedSimpArgs false
attribute [local go_sem] ite_max ite_min vite_max vite_min ext_cell ext_frozen extS_cell extS_frozen

set_option maxRecDepth 100000 in
set_option maxHeartbeats 4000000 in
theorem layat_any (p : Prg) (cs : List Value) (nm : ByteArray) (w : World) (h : PrgAt w p cs) (hfit : ∀ v ∈ p.vars, ArrOk v) (hn64 : p.vars.length ≤ 64) (ht : Blanks w) : Calls Tryd.prog 36 #[.agg cs.toArray, .string nm] w fun e w' => e = .returned (atO (atV nm 0 p.vars)) ∧ Below w.heap.size w w' := by
 obtain ⟨Av, kv, Ab, kb, rfl, hv, hbd⟩ := h
 have HRV := Lib.hid hv
 have hv1 := hv.1
 have hv2 := hv.2.1
 obtain ⟨n, hn⟩ : ∃ n, p.vars.length = n := ⟨_, rfl⟩
 obtain ⟨nb, hnb⟩ : ∃ n, p.body.length = n := ⟨_, rfl⟩
 have HCE : Hid (∀ v ∈ p.vars, ∀ W, Below w.heap.size w W → Calls Tryd.prog 14 #[.agg v.cells.toArray] W fun e w' => e = .returned (.int .i64 (cellsN v)) ∧ Below W.heap.size W w') := Lib.hid (fun v hvm W hW => kcells_any v (hfit v hvm) W (ht.on hW))
 have HFE : Hid (∀ v ∈ p.vars, cellsN v ≤ 256) := Lib.hid (fun v hvm => cellsN_few (hfit v hvm))
 obtain ⟨res, hres⟩ : ∃ r, atV nm 0 p.vars = r := ⟨_, rfl⟩
 have HRES := Lib.hid hres
 rw [hres]
 rw [hn] at hv1 hn64
 have HN := Lib.hid hn
 show Calls Tryd.prog 36 #[.agg #[.string p.name, .slice Av p.vars.length kv, .slice Ab p.body.length kb], .string nm] w _
 rw [hn, hnb]
 clear hv hbd hfit hn hnb hres ht
 go_enter Tryd.func36, Tryd.ntmps36
 go_upto_region 1 with (fail)
 refine wp_name fun W hW => ?_
 obtain ⟨B, hB⟩ : ∃ B, B = w.heap.size := ⟨_, rfl⟩
 have hB1 : B + 1 = w.heap.size + 1 := by omega
 have p0 : W.cell? ⟨B, 0, none⟩ = some (.string p.name) := by rw [hW.out, hB]; go_simp
 have p1 : W.cell? ⟨B, 1, none⟩ = some (.slice Av n kv) := by rw [hW.out, hB]; go_simp
 have p2 : W.cell? ⟨B, 2, none⟩ = some (.slice Ab nb kb) := by rw [hW.out, hB]; go_simp
 have hh : W.heap[B + 1]? = some (.cells varZs 45) := by rw [hW.out, hB]; exact heap_alloc_at (by simp)
 have hbel : Below w.heap.size w W := by rw [hW.out]; exact belowBy
 have hsz : W.heap.size = B + 2 := by rw [hW.out, hB]; simp
 rw [show w.heap.size + 1 = B + 1 by omega, ← hB]
 have HB := Lib.hid hbel
 have HH := Lib.hid hh
 have hwB : w.heap.size ≤ B := by omega
 have lB : B < W.heap.size := by omega
 clear hW hbel hh hB hB1
 have HP1 := Lib.hid p1
 have HH2 := HH
 have HB2 := HB
 clear p0 p2 HH HB
 go_upto_region 3 with (fail)
 clear p1 lB
 go_loopw [7, 13] (fun va vi wr => ∃ (i a : Nat), i ≤ n ∧ vi = .int .i64 i ∧ va = .int .i64 a ∧ a ≤ 256 * i ∧ Hid (a = sumN (p.vars.take i) ∧ ∀ j x, j < i → p.vars[j]? = some x → sameN nm x = false) ∧ Below W.heap.size W wr) (fun _ vi _ => n - (intOf vi).toNat)
 case atStart => exact ⟨0, 0, by omega, rfl, rfl, by omega, Lib.hid ⟨rfl, fun j x hj => by omega⟩, Below.refl _ _⟩
 case round =>
  obtain ⟨i, a, hi, rfl, rfl, ha, HNO, hbr⟩ := hrel
  have hsr := hbr.size
  have p1 := (hbr.cell (p := ⟨B, 1, none⟩) (by show B < _; omega)).trans HP1.out
  have HHr := Lib.hid ((hbr.block (B + 1) (by omega)).trans HH2.out)
  have HBr := Lib.hid (HB2.out.trans (hbr.mono HB2.out.size))
  have HS := Lib.hid hbr
  have lBr : B < wr.heap.size := by omega
  clear hbr
  by_cases hlt : i < n
  ·have hi0 : (0 : Int) ≤ (i : Int) ∧ (i : Int) < (n : Int) := by omega
   obtain ⟨b, off, v, rfl, hbl, hx, hrg⟩ := RowV.at8 (HRV.out.below HBr.out) (i := i) (by rw [HN.out]; exact hlt)
   have HX := Lib.hid hx
   have HRG := Lib.hid hrg
   clear hrg hx
   go_upto_region 5 with (first | refine wpList_load_mid rfl 45 _ rfl b (off + i * 8) rfl v.cells _ HRG.out Tryd.underlying45 rfl var_size8 ?_ | refine wpList_store_new rfl 45 _ _ rfl wr _ v.cells.toArray rfl rfl rfl var_size8 rfl (var_one8 v) ?_)
   refine wp_name fun W1 hW1 => ?_
   obtain ⟨V, hV⟩ : ∃ V, V = wr.heap.size := ⟨_, rfl⟩
   have hh : W1.heap[V]? = some (.cells v.cells.toArray 45) := by rw [hW1.out, hV]; exact heap_alloc_new _ _
   have hb1 : Below wr.heap.size wr W1 := by rw [hW1.out]; exact belowBy
   rw [← hV]
   have HVV := Lib.hid hh
   have HH1 := Lib.hid ((hb1.block (B + 1) (by omega)).trans HHr.out)
   have HB1 := Lib.hid (HBr.out.trans (hb1.mono HBr.out.size))
   have HS1 := Lib.hid (HS.out.trans (hb1.mono HS.out.size))
   have hs1 := hb1.size
   have lV : V < W1.heap.size := (Array.getElem?_eq_some_iff.1 hh).1
   have d0 : W1.cell? ⟨V, 0, none⟩ = some (.string v.name) := heap_cell 0 _ hh rfl
   clear hW1 hb1 hV p1 HRG HHr HBr HS
   cases hq : (v.name.toList == nm.toList)
   ·have HQ := Lib.hid hq
    have HVR : Hid (W1.rangeAt V 0 v.cells) := Lib.hid (fun j u hu => by rw [Nat.zero_add]; exact heap_cell j _ hh (by rw [List.getElem?_toArray]; exact hu))
    clear hh
    go_wp2_with (refine wpList_load_mid rfl 45 _ rfl V 0 rfl v.cells _ HVR.out Tryd.underlying45 rfl var_size8 ?_)
    refine (HCE.out v (List.mem_of_getElem? HX.out) _ HB1.out).mono ?_
    rintro e w2 ⟨rfl, hb2⟩
    obtain ⟨cv, hcv⟩ : ∃ x, cellsN v = x := ⟨_, rfl⟩
    have hcv2 : cv ≤ 256 := by rw [← hcv]; exact HFE.out v (List.mem_of_getElem? HX.out)
    rw [hcv]
    have HCV := Lib.hid hcv
    have HS2 := Lib.hid (HS1.out.trans (hb2.mono HS1.out.size))
    clear hcv d0 hb2
    go_wp2
    go_roundw
    case rel =>
     refine ⟨i + 1, a + cv, by omega, by go_num, by go_num, by omega, Lib.hid ⟨by rw [sumN_take HX.out, ← HNO.out.1, HCV.out], fun j x hj hx => ?_⟩, HS2.out⟩
     rcases Nat.lt_succ_iff_lt_or_eq.1 hj with h | rfl
     ·exact HNO.out.2 j x h hx
     ·rw [HX.out] at hx
      cases hx
      exact HQ.out
    case measure => simp [intOf]; omega
   ·have hr : res = some (a, v) := by
     rw [← HRES.out, atV_some (nm := nm) (v := v) hq p.vars 0 i HX.out (fun j x hj hx => HNO.out.2 j x hj hx), Nat.zero_add, HNO.out.1]
    subst hr
    have d1 : W1.cell? ⟨V, 1, none⟩ = _ := heap_cell 1 _ hh rfl
    have d2 : W1.cell? ⟨V, 2, none⟩ = _ := heap_cell 2 _ hh rfl
    have d3 : W1.cell? ⟨V, 3, none⟩ = _ := heap_cell 3 _ hh rfl
    have d4 : W1.cell? ⟨V, 4, none⟩ = _ := heap_cell 4 _ hh rfl
    have d5 : W1.cell? ⟨V, 5, none⟩ = _ := heap_cell 5 _ hh rfl
    have d6 : W1.cell? ⟨V, 6, none⟩ = _ := heap_cell 6 _ hh rfl
    have d7 : W1.cell? ⟨V, 7, none⟩ = _ := heap_cell 7 _ hh rfl
    clear hh
    go_upto_region 6 with (fail)
    refine wp_region_ext_tail 3 (by kernel_rfl) (by kernel_rfl) ?_
    simp only [List.take_succ_cons, List.take_zero, List.drop_succ_cons, List.drop_zero]
    repeat (go_big_quiet_step (fail))
    refine wpQuiet_nil ?_
    intro w7 hb7
    replace hb7 := ext_below hb7
    have hh7 := (hb7.block (B + 1) (by omega)).trans HH1.out
    have hB7 := HB1.out.trans (hb7.mono HB1.out.size)
    have HB7 := Lib.hid hB7
    have HH7 := Lib.hid hh7
    clear hb7 hB7 hh7 d0 d1 d2 d3 d4 d5 d6 d7
    go_wp2_with (refine wpList_store_row rfl 45 _ _ rfl (B + 1) v.cells.toArray rfl rfl 45 _ HH7.out var_size8 rfl (var_one8 v) ?_)
    refine post_tmp_row_tmp Tryd.results36 rfl (setRow_heap _ _ _ _ _ _ HH7.out) Tryd.underlying45 rfl var_size8 rfl ⟨rfl, below_setRow HB7.out (by omega) _⟩
  ·obtain rfl : i = n := by omega
   have hr : res = none := by rw [← HRES.out, atV_none p.vars 0 (fun j x hx => HNO.out.2 j x (by have := (List.getElem?_eq_some_iff.1 hx).1; rw [HN.out] at this; exact this) hx)]
   subst hr
   go_wp2_with (refine wpList_store_row rfl 45 _ _ rfl (B + 1) varZs rfl rfl 45 _ HHr.out var_size8 rfl varZs_one ?_)
   refine post_tmp_row_tmp Tryd.results36 rfl (setRow_heap _ _ _ _ _ _ HHr.out) Tryd.underlying45 rfl var_size8 rfl ⟨rfl, below_setRow HBr.out (by omega) _⟩

end Go.Proofs.YtknnhnefbbjcdaaDoor

namespace Go.Proofs.YtknnhnefbbjcdaaDoor
open Go.RowKit
set_option linter.unusedVariables false
set_option linter.unusedSimpArgs false
attribute [local go_sem] ite_max ite_min vite_max vite_min ext_cell ext_frozen extS_cell extS_frozen

def pinNo : Value := .tuple #[.int .i64 0, .agg #[.string ⟨#[]⟩, .int .i64 0, .bool false], .bool false]
def pinK (a : Nat) (ty : Int) : Option Nat → Value
 | some k => .tuple #[.int .i64 (a + k), pinA ty k, .bool true]
 | none => pinNo
def pinO (fd : ByteArray) : Option (Nat × VarS) → Value
 | some (a, v) => if 2 < v.type then pinK a v.type (pinF v.type fd) else pinNo
 | none => pinNo
theorem atV_mem {nm : ByteArray} {a : Nat} {v : VarS} : ∀ {l : List VarS} {o : Nat}, atV nm o l = some (a, v) → v ∈ l ∧ a ≤ o + sumN l
 | [], o, h => by simp [atV] at h
 | x :: l, o, h => by
  unfold atV at h
  by_cases hx : sameN nm x = true
  ·rw [if_pos hx] at h
   cases h
   exact ⟨List.mem_cons_self, Nat.le_add_right _ _⟩
  ·rw [if_neg hx] at h
   obtain ⟨h1, h2⟩ := atV_mem h
   refine ⟨List.mem_cons_of_mem _ h1, ?_⟩
   show a ≤ o + (cellsN x + sumN l)
   omega
def ResP (W : World) (E : Nat) : Prop := W.cell? ⟨E, 0, none⟩ = some (.string ⟨#[]⟩) ∧ W.cell? ⟨E, 1, none⟩ = some (.int .i64 0) ∧ W.cell? ⟨E, 2, none⟩ = some (.bool false) ∧ W.frozen? ⟨E, 0, none⟩ = false ∧ W.frozen? ⟨E, 1, none⟩ = false ∧ W.frozen? ⟨E, 2, none⟩ = false ∧ E < W.heap.size
theorem ResP.below {W W' : World} {E : Nat} (h : ResP W E) (hb : Below W.heap.size W W') : ResP W' E := by
 obtain ⟨h0, h1, h2, h3, h4, h5, hl⟩ := h
 exact ⟨(hb.cell (p := ⟨E, 0, none⟩) hl).trans h0, (hb.cell (p := ⟨E, 1, none⟩) hl).trans h1, (hb.cell (p := ⟨E, 2, none⟩) hl).trans h2, (hb.frozen (p := ⟨E, 0, none⟩) hl).trans h3, (hb.frozen (p := ⟨E, 1, none⟩) hl).trans h4, (hb.frozen (p := ⟨E, 2, none⟩) hl).trans h5, Nat.lt_of_lt_of_le hl hb.size⟩



end Go.Proofs.YtknnhnefbbjcdaaDoor

namespace Go.Proofs.YtknnhnefbbjcdaaDoor
open Go.RowKit
set_option linter.unusedVariables false
set_option linter.unusedSimpArgs false
attribute [local go_sem] ite_max ite_min vite_max vite_min ext_cell ext_frozen extS_cell extS_frozen

set_option maxRecDepth 100000 in
set_option maxHeartbeats 4000000 in
theorem laypin_any (p : Prg) (cs : List Value) (nm fd : ByteArray) (w : World) (h : PrgAt w p cs) (hfit : ∀ v ∈ p.vars, ArrOk v) (hn64 : p.vars.length ≤ 64) (ht : Blanks w) : Calls Tryd.prog 15 #[.agg cs.toArray, .string nm, .string fd] w fun e w' => e = .returned (pinO fd (atV nm 0 p.vars)) ∧ Below w.heap.size w w' := by
 obtain ⟨Av, kv, Ab, kb, rfl, hv, hbd⟩ := h
 have HAT : Hid (∀ W, Below w.heap.size w W → Calls Tryd.prog 36 #[.agg #[.string p.name, .slice Av p.vars.length kv, .slice Ab p.body.length kb], .string nm] W fun e w' => e = .returned (atO (atV nm 0 p.vars)) ∧ Below W.heap.size W w') := Lib.hid (fun W hW => layat_any p _ nm W ⟨Av, kv, Ab, kb, rfl, hv.below hW, hbd.below hW⟩ hfit hn64 (ht.on hW))
 have HT := Lib.hid ht
 obtain ⟨n, hn⟩ : ∃ n, p.vars.length = n := ⟨_, rfl⟩
 obtain ⟨nb, hnb⟩ : ∃ n, p.body.length = n := ⟨_, rfl⟩
 obtain ⟨at_, hat⟩ : ∃ r, atV nm 0 p.vars = r := ⟨_, rfl⟩
 have hsum : sumN p.vars ≤ 16384 := by
  have := firstsV_few (vs := p.vars) (i := p.vars.length) (fun v hv => cellsN_few (hfit v hv)) (Nat.le_refl _)
  rw [firstsV_len, List.take_of_length_le (Nat.le_refl _)] at this
  omega
 have hbound : ∀ a v, at_ = some (a, v) → a ≤ 16384 := fun a v he => by
  rw [← hat] at he
  have := (atV_mem he).2
  omega
 show Calls Tryd.prog 15 #[.agg #[.string p.name, .slice Av p.vars.length kv, .slice Ab p.body.length kb], .string nm, .string fd] w _
 rw [hat] at HAT ⊢
 rw [hn, hnb] at HAT ⊢
 clear hv hbd hfit hn hnb hat hn64 hsum ht
 go_enter Tryd.func15, Tryd.ntmps15
 go_upto_region 1 with (fail)
 refine wp_name fun W hW => ?_
 obtain ⟨B, hB⟩ : ∃ B, B = w.heap.size := ⟨_, rfl⟩
 have hB1 : B + 1 = w.heap.size + 1 := by omega
 have hB2 : B + 2 = w.heap.size + 1 + 1 := by omega
 have p0 : W.cell? ⟨B, 0, none⟩ = some (.string p.name) := by rw [hW.out, hB]; go_simp
 have p1 : W.cell? ⟨B, 1, none⟩ = some (.slice Av n kv) := by rw [hW.out, hB]; go_simp
 have p2 : W.cell? ⟨B, 2, none⟩ = some (.slice Ab nb kb) := by rw [hW.out, hB]; go_simp
 have HFD : Hid (∀ W', Below W.heap.size W W' → W'.cell? ⟨B + 1, 0, none⟩ = some (.string fd) ∧ B + 1 < W'.heap.size) := Lib.hid (fun W' hW' => by
  have hl : B + 1 < W.heap.size := by rw [hW.out, hB]; simp
  exact ⟨(hW'.cell (p := ⟨B + 1, 0, none⟩) hl).trans (by rw [hW.out, hB1]; go_simp), Nat.lt_of_lt_of_le hl hW'.size⟩)
 have hR : ResP W (B + 2) := by
  refine ⟨?_, ?_, ?_, ?_, ?_, ?_, by rw [hW.out, hB]; simp⟩
  all_goals (rw [hW.out, hB2]; go_simp)
 have hbel : Below w.heap.size w W := by rw [hW.out]; exact belowBy
 have lB : B < W.heap.size := by rw [hW.out, hB]; simp; omega
 rw [show w.heap.size + 1 + 1 = B + 2 by omega, show w.heap.size + 1 = B + 1 by omega, ← hB]
 have HB := Lib.hid hbel
 have HR := Lib.hid hR
 have hwB : w.heap.size ≤ B := by omega
 clear hW hbel hR hB hB1 hB2
 go_wp2_with fail
 refine (HAT.out _ HB.out).mono ?_
 rintro e w1 ⟨rfl, hb1⟩
 have HS1 := Lib.hid hb1
 have HR1 := Lib.hid (HR.out.below hb1)
 have HB1 := Lib.hid (HB.out.trans (hb1.mono HB.out.size))
 clear hb1 p0 p1 p2 lB HR HB
 cases at_ with
 | none =>
  obtain ⟨z0, z1, z2, f0, f1, f2, hlz⟩ := HR1.out
  have hz := HB1.out.size
  unfold atO
  go_upto_region 2 with (refine wpList_store_new rfl 45 _ _ rfl w1 _ varZs rfl rfl rfl var_size8 rfl varZs_one ?_)
  go_wp2
  refine bodyPost_ret (v := pinNo) (by simp [pinNo, results, Tryd.results15, go_sem, z0, z1, z2, f0, f1, f2, hlz]) rfl ⟨rfl, ?_⟩
  have := HB1.out
  exact belowBy
 | some av =>
  obtain ⟨a, v⟩ := av
  have ha := hbound a v rfl
  obtain ⟨ty, hty⟩ : ∃ t, v.type = t := ⟨_, rfl⟩
  have hz := HB1.out.size
  have hlz1 := HR1.out.2.2.2.2.2.2
  unfold atO
  go_upto_region 2 with (refine wpList_store_new rfl 45 _ _ rfl w1 _ v.cells.toArray rfl rfl rfl var_size8 rfl (var_one8 v) ?_)
  refine wp_name fun W2 hW2 => ?_
  obtain ⟨V, hV⟩ : ∃ V, V = w1.heap.size := ⟨_, rfl⟩
  have hh : W2.heap[V]? = some (.cells v.cells.toArray 45) := by rw [hW2.out, hV]; exact heap_alloc_new _ _
  have hb2 : Below w1.heap.size w1 W2 := by rw [hW2.out]; exact belowBy
  have lV : V < W2.heap.size := (Array.getElem?_eq_some_iff.1 hh).1
  rw [← hV]
  have v1 : W2.cell? ⟨V, 1, none⟩ = some (.int .i64 ty) := by rw [← hty]; exact heap_cell 1 _ hh rfl
  have HS2 := Lib.hid (HS1.out.trans (hb2.mono HS1.out.size))
  have HR2 := Lib.hid (HR1.out.below hb2)
  have HB2 := Lib.hid (HB1.out.trans (hb2.mono HB1.out.size))
  have HTY := Lib.hid hty
  obtain ⟨g0, lg⟩ := HFD.out W2 HS2.out
  clear hW2 hV hh hb2 HR1 HB1 HS1 hty hz hlz1 hbound
  obtain ⟨z0, z1, z2, f0, f1, f2, hlz⟩ := HR2.out
  have hz := HB2.out.size
  by_cases h3 : ty ≤ 2
  ·have hno : pinO fd (some (a, v)) = pinNo := by
    show (if 2 < v.type then _ else pinNo) = pinNo
    rw [if_neg (by rw [HTY.out]; omega)]
   have HNO := Lib.hid hno
   clear hno
   go_wp2
   refine bodyPost_ret (v := pinNo) (by simp [pinNo, results, Tryd.results15, go_sem, z0, z1, z2, f0, f1, f2, hlz]) rfl ⟨by rw [HNO.out], ?_⟩
   have := HB2.out
   exact belowBy
  ·have hyes : pinO fd (some (a, v)) = pinK a ty (pinF ty fd) := by
    show (if 2 < v.type then _ else pinNo) = _
    rw [if_pos (by rw [HTY.out]; omega), HTY.out]
   have HYES := Lib.hid hyes
   clear hyes
   cases hq0 : (fd.toList.isEmpty)
   ·obtain ⟨res, hres⟩ : ∃ r, (List.range (rcount ty)).find? (fun k => (pinNm ty k).toList == fd.toList) = r := ⟨_, rfl⟩
    have hpf : pinF ty fd = res := by
     rw [← hres]
     unfold pinF
     congr 1
     funext k
     unfold pinHit
     rw [hq0]
     rfl
    rw [hpf] at HYES
    have HRES := Lib.hid hres
    have HQ0 := Lib.hid hq0
    have hq1 : (fd.toList == []) = false := by
     cases hfl : fd.toList with
     | nil => rw [hfl] at hq0; cases hq0
     | cons x l => rfl
    clear hres hpf z0 z1 z2 f0 f1 f2 hlz
    go_wp2_with fail
    refine (pins_rowK ty _ (HT.out.on HB2.out)).mono ?_
    rintro e w3 ⟨⟨A, c, rfl, hnc, hc, hrow⟩, hb3⟩
    have HROW := Lib.hid hrow
    have HS3 := Lib.hid (HS2.out.trans (hb3.mono HS2.out.size))
    have HR3 := Lib.hid (HR2.out.below hb3)
    have HB3 := Lib.hid (HB2.out.trans (hb3.mono HB2.out.size))
    clear hrow hb3 HR2 HB2 HS2 v1 lV hz g0 lg
    go_wp2_with fail
    refine (ix_pin 38 _ (fun k => (pinNm ty k).toList == fd.toList) ty A c w3 ⟨hnc, hc⟩ HROW.out cf_pin1 (fun k w' hw' => ?_)).mono ?_
    ·obtain ⟨g0, lg⟩ := HFD.out w' (HS3.out.trans (hw'.mono HS3.out.size))
     exact pin1_any (pinNm ty k) (pinTy ty k) (pinIn ty k) (B + 1) fd w' g0 lg
    rintro e w4 ⟨rfl, hb4⟩
    have HROW4 := Lib.hid (HROW.out.below hb4)
    have HR4 := Lib.hid (HR3.out.below hb4)
    have HB4 := Lib.hid (HB3.out.trans (hb4.mono HB3.out.size))
    rw [HRES.out]
    clear hb4 HR3 HB3 HS3 HROW
    obtain ⟨z0, z1, z2, f0, f1, f2, hlz⟩ := HR4.out
    have hz := HB4.out.size
    cases res with
    | none =>
     have HY2 : Hid (pinO fd (some (a, v)) = pinNo) := HYES
     unfold ixV
     clear HYES
     go_wp2
     refine bodyPost_ret (v := pinNo) (by simp [pinNo, results, Tryd.results15, go_sem, z0, z1, z2, f0, f1, f2, hlz]) rfl ⟨by rw [HY2.out], ?_⟩
     have := HB4.out
     exact belowBy
    | some k =>
     have hk : k < rcount ty := by
      have := List.mem_of_find?_eq_some HRES.out
      simpa using this
     obtain ⟨m, hm⟩ : ∃ n, rcount ty = n := ⟨_, rfl⟩
     have hm64 : m ≤ 64 := by rw [← hm]; exact rcount_few ty
     obtain ⟨b, rfl, hbl, c0, c1, c2⟩ := HROW4.out k hk
     rw [hm] at hnc hk ⊢
     have hi0 : (0 : Int) ≤ (k : Int) ∧ (k : Int) < (m : Int) := by omega
     obtain ⟨s, hs⟩ : ∃ s, pinNm ty k = s := ⟨_, rfl⟩
     obtain ⟨t, ht⟩ : ∃ s, pinTy ty k = s := ⟨_, rfl⟩
     obtain ⟨ii, hii⟩ : ∃ s, pinIn ty k = s := ⟨_, rfl⟩
     have hy2 : pinO fd (some (a, v)) = .tuple #[.int .i64 (a + k), .agg #[.string s, .int .i64 t, .bool ii], .bool true] := by
      rw [HYES.out]
      show Value.tuple #[.int .i64 (a + k), pinA ty k, .bool true] = _
      unfold pinA
      rw [hs, ht, hii]
     rw [hs] at c0
     rw [ht] at c1
     rw [hii] at c2
     have HY2 := Lib.hid hy2
     unfold ixV
     clear hy2 HYES hs ht hii hm
     go_upto_region 8 with (fail)
     refine wp_region_ext_tail 8 (by kernel_rfl) (by kernel_rfl) ?_
     simp only [List.take_succ_cons, List.take_zero, List.drop_succ_cons, List.drop_zero]
     repeat (go_big_quiet_step (fail))
     refine wpQuiet_nil ?_
     intro w7 hb7
     replace hb7 := ext_below hb7
     have HR7 := Lib.hid (HR4.out.below hb7)
     have HB7 := Lib.hid (HB4.out.trans (hb7.mono HB4.out.size))
     clear hb7 z0 z1 z2 f0 f1 f2 hlz hz c0 c1 c2 HR4 HB4
     obtain ⟨z0, z1, z2, f0, f1, f2, hlz⟩ := HR7.out
     have hz := HB7.out.size
     go_wp2
     refine bodyPost_ret (v := .tuple #[.int .i64 (a + k), .agg #[.string s, .int .i64 t, .bool ii], .bool true]) (by simp [results, Tryd.results15, go_sem, z0, z1, z2, f0, f1, f2, hlz]) rfl ⟨by rw [HY2.out], ?_⟩
     have := HB7.out
     exact belowBy
   ·have hpf : pinF ty fd = none := range_find_none (fun j _ => by unfold pinHit; rw [hq0]; rfl)
    rw [hpf] at HYES
    have HY2 : Hid (pinO fd (some (a, v)) = pinNo) := HYES
    have hfl : fd.toList = [] := by
     cases hfl : fd.toList with
     | nil => rfl
     | cons x l => rw [hfl] at hq0; cases hq0
    clear HYES hpf
    go_wp2
    refine bodyPost_ret (v := pinNo) (by simp [pinNo, results, Tryd.results15, go_sem, z0, z1, z2, f0, f1, f2, hlz]) rfl ⟨by rw [HY2.out], ?_⟩
    have := HB2.out
    exact belowBy

end Go.Proofs.YtknnhnefbbjcdaaDoor
