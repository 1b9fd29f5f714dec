/- Merged: Layer 22: where a variable begins, in both. Layer 22: where a variable begins, by the program. slices.IndexFunc over the pins of a kind. Layer 22: where a pin stands, by the reference. Layer 22: where a pin stands, by the program. Layer 22: two layouts of the same numbers are the same. -/
import Derived.Test.YtpgkebfdfhdliaaDoorM15
import Derived.Test.YtpgkebfdfhdliaaDoorM02
namespace Go.Proofs.YtpgkebfdfhdliaaDoor
open Go.RowKit
set_option linter.unusedVariables false
set_option linter.unusedSimpArgs false
attribute [local go_sem] ite_max ite_min vite_max vite_min ext_cell ext_frozen extS_cell extS_frozen

theorem heap_alloc_at {w : World} {o : Obj} {k : Nat} (h : w.heap.size = k) : (w.alloc o).heap[k]? = some o := h ▸ heap_alloc_new w o
def atO : Option (Nat × VarS) → Value
  | some (a, v) => .tuple #[.int .i64 a, .agg v.cells.toArray, .bool true]
  | none => .tuple #[.int .i64 0, .agg varZs, .bool false]
theorem post_tmp_row_tmp {P : Program} {fn : Func} {R : Ending → World → Prop} {a : Act} {w : World} {p q r : Tmp} {ty : TypeId} {g : Nat} {t : TypeId} {cs : Array Value} {fr : Nat × Nat} {d : TypeDesc} (h : fn.results = #[.tmp r, .cell p ty, .tmp q])
    (hp : a.tmps.getD p undef = .pointer (some ⟨g, 0, none⟩)) (hg : w.heap[g]? = some (.cells cs t fr)) (hu : P.underlying ty = some d) (hd : (match d with | .struct _ | .array _ _ => true | _ => false) = true) (hi : (P.info? ty).map (·.size) = some cs.size)
    (hdf : a.defers = []) (hR : R (.returned (.tuple #[a.tmps.getD r undef, .agg cs, a.tmps.getD q undef])) w) : bodyPost P fn R .ret a w := bodyPost_ret (by
  have hp' : a.tmps[p]?.getD undef = .pointer (some ⟨g, 0, none⟩) := by simpa using hp
  simp [results, h, hp', asAddr, run_loadVar_row w g t ty cs fr d hg hu hd hi]) hdf hR

set_option maxRecDepth 100000 in
set_option maxHeartbeats 4000000 in
theorem at22_any (p : Prg) (cs : List Value) (nm : ByteArray) (w : World) (h : PrgAt w p cs) (hfit : ∀ v ∈ p.vars, ArrOk v) (hn64 : p.vars.length ≤ 64) : Calls Tryd.prog 13 #[.agg cs.toArray, .string nm] w fun e w' => e = .returned (atO (atV nm 0 p.vars)) ∧ Below w.heap.size w w' := by
  obtain ⟨Av, kv, Ab, kb, rfl, hv, hbd⟩ := h
  have HRV := Lib.hid hv
  have hv1 := hv.1
  have hv2 := hv.2.1
  obtain ⟨n, hn⟩ : ∃ n, p.vars.length = n := ⟨_, rfl⟩
  obtain ⟨nb, hnb⟩ : ∃ n, p.body.length = n := ⟨_, rfl⟩
  have HOF : Hid (∀ W, Below w.heap.size w W → Calls Tryd.prog 11 #[.agg #[.string p.name, .slice Av n kv, .slice Ab nb kb]] W fun e w' => (∃ v, e = .returned v ∧ LayR W p.vars v w') ∧ Below W.heap.size W w') := Lib.hid (fun W hW => by
    have := of22_any p _ W ⟨Av, kv, Ab, kb, rfl, hv.below hW, hbd.below hW⟩ hfit hn64
    rwa [hn, hnb] at this)
  obtain ⟨res, hres⟩ : ∃ r, atV nm 0 p.vars = r := ⟨_, rfl⟩
  have HRES := Lib.hid hres
  rw [hres]
  rw [hn] at hv1 hn64
  have HN := Lib.hid hn
  show Calls Tryd.prog 13 #[.agg #[.string p.name, .slice Av p.vars.length kv, .slice Ab p.body.length kb], .string nm] w _
  rw [hn, hnb]
  clear hv hbd hfit hn hnb hres
  go_enter Tryd.func13, Tryd.ntmps13
  go_upto_region 1 with (fail)
  refine wp_name fun W hW => ?_
  obtain ⟨B, hB⟩ : ∃ B, B = w.heap.size := ⟨_, rfl⟩
  have hB1 : B + 1 = w.heap.size + 1 := by omega
  have p0 : W.cell? ⟨B, 0, none⟩ = some (.string p.name) := by rw [hW.out, hB]; go_simp
  have p1 : W.cell? ⟨B, 1, none⟩ = some (.slice Av n kv) := by rw [hW.out, hB]; go_simp
  have p2 : W.cell? ⟨B, 2, none⟩ = some (.slice Ab nb kb) := by rw [hW.out, hB]; go_simp
  have hh : W.heap[B + 1]? = some (.cells varZs 35) := by rw [hW.out, hB]; exact heap_alloc_at (by simp)
  have hbel : Below w.heap.size w W := by rw [hW.out]; (repeat' (first | (with_reducible exact Below.refl _ _) | (with_reducible assumption) | (with_reducible refine below_drewN ?_ _) | (with_reducible refine Below.drew ?_) | (with_reducible refine below_new ?_ (Nat.le_refl _) _) | (with_reducible refine Below.setCell ?_ ?_ _) | (with_reducible refine below_go ?_ (by assumption) (Nat.le_refl _)) | (simp; done) | (simp; omega) | omega))
  have hsz : W.heap.size = B + 2 := by rw [hW.out, hB]; simp
  rw [show w.heap.size + 1 = B + 1 by omega, ← hB]
  have HB := Lib.hid hbel
  have HH := Lib.hid hh
  have hwB : w.heap.size ≤ B := by omega
  have lB : B < W.heap.size := by omega
  clear hW hbel hh hB hB1
  go_wp2_with fail
  refine (HOF.out _ HB.out).mono ?_
  rintro e w1 ⟨⟨v, rfl, vA, vF, rfl, hoA, hoF⟩, hb1⟩
  obtain ⟨A0, k0, hvA⟩ := own_slice hoA
  obtain ⟨A1, k1, hvF⟩ := own_slice hoF
  subst hvA hvF
  have HOA := Lib.hid hoA
  have hs1 := hb1.size
  have p1' := (hb1.cell (p := ⟨B, 1, none⟩) lB).trans p1
  have HH1 := Lib.hid ((hb1.block (B + 1) (by omega)).trans HH.out)
  have HB1 := Lib.hid (HB.out.trans (hb1.mono (by omega)))
  clear hoA hoF hb1 p0 p1 p2 HH HB
  rw [HN.out] at HOA ⊢
  go_upto_region 3 with (fail)
  refine wp_name fun W2 hW2 => ?_
  obtain ⟨L, hL⟩ : ∃ L, L = w1.heap.size := ⟨_, rfl⟩
  have l0 : W2.cell? ⟨L, 0, none⟩ = some (.slice A0 n k0) := by rw [hW2.out, hL]; go_simp
  have hb2 : Below w1.heap.size w1 W2 := by rw [hW2.out]; (repeat' (first | (with_reducible exact Below.refl _ _) | (with_reducible assumption) | (with_reducible refine below_drewN ?_ _) | (with_reducible refine Below.drew ?_) | (with_reducible refine below_new ?_ (Nat.le_refl _) _) | (with_reducible refine Below.setCell ?_ ?_ _) | (with_reducible refine below_go ?_ (by assumption) (Nat.le_refl _)) | (simp; done) | (simp; omega) | omega))
  have lL : L < W2.heap.size := by rw [hW2.out, hL]; simp
  rw [← hL]
  have p1 := (hb2.cell (p := ⟨B, 1, none⟩) (by show B < _; omega)).trans p1'
  have HH2 := Lib.hid ((hb2.block (B + 1) (by omega)).trans HH1.out)
  have HB2 := Lib.hid (HB1.out.trans (hb2.mono (by omega)))
  have HOA2 := Lib.hid (owns_below HOA.out hb2)
  have HP1 := Lib.hid p1
  have HL0 := Lib.hid l0
  have hs2 := hb2.size
  clear hW2 hb2 p1' HH1 HB1 HOA p1 l0 hL
  go_loopw [8] (fun vi wr => ∃ (i : Nat), i ≤ n ∧ vi = .int .i64 i ∧ Hid (∀ j x, j < i → p.vars[j]? = some x → sameN nm x = false) ∧ Below W2.heap.size W2 wr) (fun vi _ => n - (intOf vi).toNat)
  case atStart => exact ⟨0, by omega, rfl, Lib.hid (fun j x hj => by omega), Below.refl _ _⟩
  case round =>
    obtain ⟨i, hi, rfl, HNO, hbr⟩ := hrel
    have hsr := hbr.size
    have p1 := (hbr.cell (p := ⟨B, 1, none⟩) (by show B < _; omega)).trans HP1.out
    have l0 := (hbr.cell (p := ⟨L, 0, none⟩) lL).trans HL0.out
    have HHr := Lib.hid ((hbr.block (B + 1) (by omega)).trans HH2.out)
    have HBr := Lib.hid (HB2.out.trans (hbr.mono HB2.out.size))
    have HOr := Lib.hid (owns_below HOA2.out hbr)
    have HS := Lib.hid hbr
    have lBr : B < wr.heap.size := by omega
    have lLr : L < wr.heap.size := by omega
    clear hbr
    by_cases hlt : i < n
    · have hi0 : (0 : Int) ≤ (i : Int) ∧ (i : Int) < (n : Int) := by omega
      obtain ⟨b, off, v, rfl, hbl, hx, hrg⟩ := RowV.at8 (HRV.out.below HBr.out) (i := i) (by rw [HN.out]; exact hlt)
      have HX := Lib.hid hx
      have x0 : wr.cell? ⟨b, off + i * 8, none⟩ = _ := hrg 0 _ rfl
      have x1 : wr.cell? ⟨b, off + i * 8 + 1, none⟩ = _ := hrg 1 _ rfl
      have x2 : wr.cell? ⟨b, off + i * 8 + 2, none⟩ = _ := hrg 2 _ rfl
      have x3 : wr.cell? ⟨b, off + i * 8 + 3, none⟩ = _ := hrg 3 _ rfl
      have x4 : wr.cell? ⟨b, off + i * 8 + 4, none⟩ = _ := hrg 4 _ rfl
      have x5 : wr.cell? ⟨b, off + i * 8 + 5, none⟩ = _ := hrg 5 _ rfl
      have x6 : wr.cell? ⟨b, off + i * 8 + 6, none⟩ = _ := hrg 6 _ rfl
      have x7 : wr.cell? ⟨b, off + i * 8 + 7, none⟩ = _ := hrg 7 _ rfl
      clear hrg hx
      cases hq : (v.name.toList == nm.toList)
      · have HQ := Lib.hid hq
        clear x1 x2 x3 x4 x5 x6 x7
        go_wp2
        go_roundw
        case rel =>
          refine ⟨i + 1, by omega, by go_num, Lib.hid (fun j x hj hx => ?_), HS.out⟩
          rcases Nat.lt_succ_iff_lt_or_eq.1 hj with h | rfl
          · exact HNO.out j x h hx
          · rw [HX.out] at hx
            cases hx
            exact HQ.out
        case measure => simp [intOf]; omega
      · obtain ⟨gA, cA, hA, -, -⟩ := HOr.out.form (by omega)
        injection hA with hA
        subst hA
        have oi : wr.cell? ⟨gA, i, none⟩ = some (.int .i64 (sumN (p.vars.take i))) := owns_cell HOr.out rfl (by rw [intsV_get _ _ _ (by rw [offsN_len, HN.out]; exact hlt), offsN_get _ _ _ (by rw [HN.out]; exact hlt), Nat.zero_add]; rfl)
        have lgA : gA < wr.heap.size := (HOr.out.lt gA rfl).2
        have hr : res = some (sumN (p.vars.take i), v) := by
          rw [← HRES.out, atV_some (nm := nm) (v := v) hq p.vars 0 i HX.out (fun j x hj hx => HNO.out j x hj hx), Nat.zero_add]
        subst hr
        go_upto_region 6 with (fail)
        refine wp_region_ext_tail 11 (by kernel_rfl) (by kernel_rfl) ?_
        simp only [List.take_succ_cons, List.take_zero, List.drop_succ_cons, List.drop_zero]
        repeat (go_big_quiet_step (fail))
        refine wpQuiet_nil ?_
        intro w7 hb7
        replace hb7 := ext_below hb7
        have hh7 := (hb7.block (B + 1) (by omega)).trans HHr.out
        have hB7 := HBr.out.trans (hb7.mono HBr.out.size)
        have HB7 := Lib.hid hB7
        have HH7 := Lib.hid hh7
        clear hb7 hB7 hh7 oi x0 x1 x2 x3 x4 x5 x6 x7 p1 l0
        go_wp2_with (refine wpList_store_row rfl 35 _ _ rfl (B + 1) v.cells.toArray rfl rfl 35 _ HH7.out var_size8 rfl (var_one8 v) ?_)
        refine post_tmp_row_tmp Tryd.results13 rfl (setRow_heap _ _ _ _ _ _ HH7.out) Tryd.underlying35 rfl var_size8 rfl ⟨rfl, below_setRow HB7.out (by omega) _⟩
    · obtain rfl : i = n := by omega
      have hr : res = none := by rw [← HRES.out, atV_none p.vars 0 (fun j x hx => HNO.out j x (by have := (List.getElem?_eq_some_iff.1 hx).1; rw [HN.out] at this; exact this) hx)]
      subst hr
      go_wp2_with (refine wpList_store_row rfl 35 _ _ rfl (B + 1) varZs rfl rfl 35 _ HHr.out var_size8 rfl varZs_one ?_)
      refine post_tmp_row_tmp Tryd.results13 rfl (setRow_heap _ _ _ _ _ _ HHr.out) Tryd.underlying35 rfl var_size8 rfl ⟨rfl, below_setRow HBr.out (by omega) _⟩

end Go.Proofs.YtpgkebfdfhdliaaDoor

namespace Go.Proofs.YtpgkebfdfhdliaaDoor
open Go.RowKit
set_option linter.unusedVariables false
set_option linter.unusedSimpArgs false
attribute [local go_sem] ite_max ite_min vite_max vite_min ext_cell ext_frozen extS_cell extS_frozen

set_option maxRecDepth 100000 in
set_option maxHeartbeats 4000000 in
theorem layat_any (p : Prg) (cs : List Value) (nm : ByteArray) (w : World) (h : PrgAt w p cs) (hfit : ∀ v ∈ p.vars, ArrOk v) (hn64 : p.vars.length ≤ 64) (ht : Blanks w) : Calls Tryd.prog 12 #[.agg cs.toArray, .string nm] w fun e w' => e = .returned (atO (atV nm 0 p.vars)) ∧ Below w.heap.size w w' := by
  obtain ⟨Av, kv, Ab, kb, rfl, hv, hbd⟩ := h
  have HRV := Lib.hid hv
  have hv1 := hv.1
  have hv2 := hv.2.1
  obtain ⟨n, hn⟩ : ∃ n, p.vars.length = n := ⟨_, rfl⟩
  obtain ⟨nb, hnb⟩ : ∃ n, p.body.length = n := ⟨_, rfl⟩
  have HCE : Hid (∀ v ∈ p.vars, ∀ W, Below w.heap.size w W → Calls Tryd.prog 16 #[.agg v.cells.toArray] W fun e w' => e = .returned (.int .i64 (cellsN v)) ∧ Below W.heap.size W w') := Lib.hid (fun v hvm W hW => kcells_any v (hfit v hvm) W (ht.on hW))
  have HFE : Hid (∀ v ∈ p.vars, cellsN v ≤ 256) := Lib.hid (fun v hvm => cellsN_few (hfit v hvm))
  obtain ⟨res, hres⟩ : ∃ r, atV nm 0 p.vars = r := ⟨_, rfl⟩
  have HRES := Lib.hid hres
  rw [hres]
  rw [hn] at hv1 hn64
  have HN := Lib.hid hn
  show Calls Tryd.prog 12 #[.agg #[.string p.name, .slice Av p.vars.length kv, .slice Ab p.body.length kb], .string nm] w _
  rw [hn, hnb]
  clear hv hbd hfit hn hnb hres ht
  go_enter Tryd.func12, Tryd.ntmps12
  go_upto_region 1 with (fail)
  refine wp_name fun W hW => ?_
  obtain ⟨B, hB⟩ : ∃ B, B = w.heap.size := ⟨_, rfl⟩
  have hB1 : B + 1 = w.heap.size + 1 := by omega
  have p0 : W.cell? ⟨B, 0, none⟩ = some (.string p.name) := by rw [hW.out, hB]; go_simp
  have p1 : W.cell? ⟨B, 1, none⟩ = some (.slice Av n kv) := by rw [hW.out, hB]; go_simp
  have p2 : W.cell? ⟨B, 2, none⟩ = some (.slice Ab nb kb) := by rw [hW.out, hB]; go_simp
  have hh : W.heap[B + 1]? = some (.cells varZs 35) := by rw [hW.out, hB]; exact heap_alloc_at (by simp)
  have hbel : Below w.heap.size w W := by rw [hW.out]; (repeat' (first | (with_reducible exact Below.refl _ _) | (with_reducible assumption) | (with_reducible refine below_drewN ?_ _) | (with_reducible refine Below.drew ?_) | (with_reducible refine below_new ?_ (Nat.le_refl _) _) | (with_reducible refine Below.setCell ?_ ?_ _) | (with_reducible refine below_go ?_ (by assumption) (Nat.le_refl _)) | (simp; done) | (simp; omega) | omega))
  have hsz : W.heap.size = B + 2 := by rw [hW.out, hB]; simp
  rw [show w.heap.size + 1 = B + 1 by omega, ← hB]
  have HB := Lib.hid hbel
  have HH := Lib.hid hh
  have hwB : w.heap.size ≤ B := by omega
  have lB : B < W.heap.size := by omega
  clear hW hbel hh hB hB1
  have HP1 := Lib.hid p1
  have HH2 := HH
  have HB2 := HB
  clear p0 p2 HH HB
  go_upto_region 3 with (fail)
  clear p1 lB
  go_loopw [7, 13] (fun va vi wr => ∃ (i a : Nat), i ≤ n ∧ vi = .int .i64 i ∧ va = .int .i64 a ∧ a ≤ 256 * i ∧ Hid (a = sumN (p.vars.take i) ∧ ∀ j x, j < i → p.vars[j]? = some x → sameN nm x = false) ∧ Below W.heap.size W wr) (fun _ vi _ => n - (intOf vi).toNat)
  case atStart => exact ⟨0, 0, by omega, rfl, rfl, by omega, Lib.hid ⟨rfl, fun j x hj => by omega⟩, Below.refl _ _⟩
  case round =>
    obtain ⟨i, a, hi, rfl, rfl, ha, HNO, hbr⟩ := hrel
    have hsr := hbr.size
    have p1 := (hbr.cell (p := ⟨B, 1, none⟩) (by show B < _; omega)).trans HP1.out
    have HHr := Lib.hid ((hbr.block (B + 1) (by omega)).trans HH2.out)
    have HBr := Lib.hid (HB2.out.trans (hbr.mono HB2.out.size))
    have HS := Lib.hid hbr
    have lBr : B < wr.heap.size := by omega
    clear hbr
    by_cases hlt : i < n
    · have hi0 : (0 : Int) ≤ (i : Int) ∧ (i : Int) < (n : Int) := by omega
      obtain ⟨b, off, v, rfl, hbl, hx, hrg⟩ := RowV.at8 (HRV.out.below HBr.out) (i := i) (by rw [HN.out]; exact hlt)
      have HX := Lib.hid hx
      have HRG := Lib.hid hrg
      clear hrg hx
      go_upto_region 5 with (first | refine wpList_load_mid rfl 35 _ rfl b (off + i * 8) rfl v.cells _ HRG.out Tryd.underlying35 rfl var_size8 ?_ | refine wpList_store_new rfl 35 _ _ rfl wr _ v.cells.toArray rfl rfl rfl var_size8 rfl (var_one8 v) ?_)
      refine wp_name fun W1 hW1 => ?_
      obtain ⟨V, hV⟩ : ∃ V, V = wr.heap.size := ⟨_, rfl⟩
      have hh : W1.heap[V]? = some (.cells v.cells.toArray 35) := by rw [hW1.out, hV]; exact heap_alloc_new _ _
      have hb1 : Below wr.heap.size wr W1 := by rw [hW1.out]; (repeat' (first | (with_reducible exact Below.refl _ _) | (with_reducible assumption) | (with_reducible refine below_drewN ?_ _) | (with_reducible refine Below.drew ?_) | (with_reducible refine below_new ?_ (Nat.le_refl _) _) | (with_reducible refine Below.setCell ?_ ?_ _) | (with_reducible refine below_go ?_ (by assumption) (Nat.le_refl _)) | (simp; done) | (simp; omega) | omega))
      rw [← hV]
      have HVV := Lib.hid hh
      have HH1 := Lib.hid ((hb1.block (B + 1) (by omega)).trans HHr.out)
      have HB1 := Lib.hid (HBr.out.trans (hb1.mono HBr.out.size))
      have HS1 := Lib.hid (HS.out.trans (hb1.mono HS.out.size))
      have hs1 := hb1.size
      have lV : V < W1.heap.size := (Array.getElem?_eq_some_iff.1 hh).1
      have d0 : W1.cell? ⟨V, 0, none⟩ = some (.string v.name) := heap_cell 0 _ hh rfl
      clear hW1 hb1 hV p1 HRG HHr HBr HS
      cases hq : (v.name.toList == nm.toList)
      · have HQ := Lib.hid hq
        have HVR : Hid (W1.rangeAt V 0 v.cells) := Lib.hid (fun j u hu => by rw [Nat.zero_add]; exact heap_cell j _ hh (by rw [List.getElem?_toArray]; exact hu))
        clear hh
        go_wp2_with (refine wpList_load_mid rfl 35 _ rfl V 0 rfl v.cells _ HVR.out Tryd.underlying35 rfl var_size8 ?_)
        refine (HCE.out v (List.mem_of_getElem? HX.out) _ HB1.out).mono ?_
        rintro e w2 ⟨rfl, hb2⟩
        obtain ⟨cv, hcv⟩ : ∃ x, cellsN v = x := ⟨_, rfl⟩
        have hcv2 : cv ≤ 256 := by rw [← hcv]; exact HFE.out v (List.mem_of_getElem? HX.out)
        rw [hcv]
        have HCV := Lib.hid hcv
        have HS2 := Lib.hid (HS1.out.trans (hb2.mono HS1.out.size))
        clear hcv d0 hb2
        go_wp2
        go_roundw
        case rel =>
          refine ⟨i + 1, a + cv, by omega, by go_num, by go_num, by omega, Lib.hid ⟨by rw [sumN_take HX.out, ← HNO.out.1, HCV.out], fun j x hj hx => ?_⟩, HS2.out⟩
          rcases Nat.lt_succ_iff_lt_or_eq.1 hj with h | rfl
          · exact HNO.out.2 j x h hx
          · rw [HX.out] at hx
            cases hx
            exact HQ.out
        case measure => simp [intOf]; omega
      · have hr : res = some (a, v) := by
          rw [← HRES.out, atV_some (nm := nm) (v := v) hq p.vars 0 i HX.out (fun j x hj hx => HNO.out.2 j x hj hx), Nat.zero_add, HNO.out.1]
        subst hr
        have d1 : W1.cell? ⟨V, 1, none⟩ = _ := heap_cell 1 _ hh rfl
        have d2 : W1.cell? ⟨V, 2, none⟩ = _ := heap_cell 2 _ hh rfl
        have d3 : W1.cell? ⟨V, 3, none⟩ = _ := heap_cell 3 _ hh rfl
        have d4 : W1.cell? ⟨V, 4, none⟩ = _ := heap_cell 4 _ hh rfl
        have d5 : W1.cell? ⟨V, 5, none⟩ = _ := heap_cell 5 _ hh rfl
        have d6 : W1.cell? ⟨V, 6, none⟩ = _ := heap_cell 6 _ hh rfl
        have d7 : W1.cell? ⟨V, 7, none⟩ = _ := heap_cell 7 _ hh rfl
        clear hh
        go_upto_region 6 with (fail)
        refine wp_region_ext_tail 3 (by kernel_rfl) (by kernel_rfl) ?_
        simp only [List.take_succ_cons, List.take_zero, List.drop_succ_cons, List.drop_zero]
        repeat (go_big_quiet_step (fail))
        refine wpQuiet_nil ?_
        intro w7 hb7
        replace hb7 := ext_below hb7
        have hh7 := (hb7.block (B + 1) (by omega)).trans HH1.out
        have hB7 := HB1.out.trans (hb7.mono HB1.out.size)
        have HB7 := Lib.hid hB7
        have HH7 := Lib.hid hh7
        clear hb7 hB7 hh7 d0 d1 d2 d3 d4 d5 d6 d7
        go_wp2_with (refine wpList_store_row rfl 35 _ _ rfl (B + 1) v.cells.toArray rfl rfl 35 _ HH7.out var_size8 rfl (var_one8 v) ?_)
        refine post_tmp_row_tmp Tryd.results12 rfl (setRow_heap _ _ _ _ _ _ HH7.out) Tryd.underlying35 rfl var_size8 rfl ⟨rfl, below_setRow HB7.out (by omega) _⟩
    · obtain rfl : i = n := by omega
      have hr : res = none := by rw [← HRES.out, atV_none p.vars 0 (fun j x hx => HNO.out.2 j x (by have := (List.getElem?_eq_some_iff.1 hx).1; rw [HN.out] at this; exact this) hx)]
      subst hr
      go_wp2_with (refine wpList_store_row rfl 35 _ _ rfl (B + 1) varZs rfl rfl 35 _ HHr.out var_size8 rfl varZs_one ?_)
      refine post_tmp_row_tmp Tryd.results12 rfl (setRow_heap _ _ _ _ _ _ HHr.out) Tryd.underlying35 rfl var_size8 rfl ⟨rfl, below_setRow HBr.out (by omega) _⟩

end Go.Proofs.YtpgkebfdfhdliaaDoor

namespace Go.Proofs.YtpgkebfdfhdliaaDoor
open Go.RowKit
set_option linter.unusedVariables false
set_option linter.unusedSimpArgs false
attribute [local go_sem] ite_max ite_min vite_max vite_min ext_cell ext_frozen extS_cell extS_frozen

def ixV : Option Nat → Int
  | some k => k
  | none => -1
def pinA (kind : Int) (k : Nat) : Value := .agg #[.string (pinNm kind k), .int .i64 (pinTy kind k), .bool (pinIn kind k)]

set_option maxRecDepth 100000 in
set_option maxHeartbeats 2000000 in
theorem ix_pin (F : FuncId) (caps : Array Value) (p : Nat → Bool) (kind : Int) (A : Option Addr) (c : Nat) (w : World) (hcap : rcount kind ≤ c ∧ c ≤ 9223372036854775807) (hr : RowK w A kind)
    (hcf : ∀ (args : Array Value) (w : World), Sem.run Tryd.prog (callFunc F args) w = .ok (.enter F args) w)
    (hF : ∀ (k : Nat) w', Below w.heap.size w w' → Calls Tryd.prog F (#[pinA kind k] ++ caps) w' fun e w'' => e = .returned (.bool (p k)) ∧ Below w'.heap.size w' w'') :
    Calls Tryd.prog 33 #[.slice A (rcount kind) c, .func (.func F) #[] caps] w fun e w' => e = .returned (.int .i64 (ixV ((List.range (rcount kind)).find? p))) ∧ Below w.heap.size w w' := by
  obtain ⟨n, hn⟩ : ∃ n, rcount kind = n := ⟨_, rfl⟩
  obtain ⟨res, hres⟩ : ∃ r, (List.range (rcount kind)).find? p = r := ⟨_, rfl⟩
  have HRES := Lib.hid hres
  have HN := Lib.hid hn
  have HF := Lib.hid hF
  have HC := Lib.hid hr
  rw [hres]
  rw [hn] at hcap ⊢
  obtain ⟨hc1, hc2⟩ := hcap
  clear hF hr hn hres
  go_enter Tryd.func33, Tryd.ntmps33
  go_wp2_with fail
  go_loopw [8] (fun u wr => ∃ k : Nat, k ≤ n ∧ u = .int .i64 k ∧ Hid (∀ j, j < k → p j = false) ∧ Below w.heap.size w wr) (fun u _ => n - (intOf u).toNat)
  case atStart => exact ⟨0, by omega, rfl, Lib.hid (fun j hj => by omega), Below.refl _ _⟩
  case round =>
    obtain ⟨k, hk, rfl, HK, hbr⟩ := hrel
    by_cases hlt : k < n
    · obtain ⟨b, rfl, hbl, c0, c1, c2⟩ := HC.out.below hbr k (by rw [HN.out]; exact hlt)
      have hk0 : (0 : Int) ≤ (k : Int) := by omega
      have hkn : (k : Int) < (n : Int) := by omega
      have HFk := HF.out k wr hbr
      unfold pinA at HFk
      obtain ⟨s0, hs0⟩ : ∃ x, pinNm kind k = x := ⟨_, rfl⟩
      obtain ⟨s1, hs1⟩ : ∃ x, pinTy kind k = x := ⟨_, rfl⟩
      obtain ⟨s2, hs2⟩ : ∃ x, pinIn kind k = x := ⟨_, rfl⟩
      rw [hs0] at c0 HFk
      rw [hs1] at c1 HFk
      rw [hs2] at c2 HFk
      clear hs0 hs1 hs2
      cases hp : p k
      · rw [hp] at HFk
        have HP := Lib.hid hp
        have HF2 := Lib.hid HFk
        clear hp HFk
        go_wp2_with fail
        refine HF2.out.mono ?_
        rintro e w' ⟨rfl, hb2⟩
        go_wp2
        go_roundw
        case rel =>
          refine ⟨k + 1, by omega, by go_num, Lib.hid (fun j hj => ?_), by (repeat' (first | (with_reducible exact Below.refl _ _) | (with_reducible assumption) | (with_reducible refine below_drewN ?_ _) | (with_reducible refine Below.drew ?_) | (with_reducible refine below_new ?_ (Nat.le_refl _) _) | (with_reducible refine Below.setCell ?_ ?_ _) | (with_reducible refine below_go ?_ (by assumption) (Nat.le_refl _)) | (simp; done) | (simp; omega) | omega))⟩
          rcases Nat.lt_succ_iff_lt_or_eq.1 hj with h | rfl
          · exact HK.out j h
          · exact HP.out
        case measure => simp [intOf]; omega
      · rw [hp] at HFk
        have hr2 : res = some k := by rw [← HRES.out]; exact range_find (by rw [HN.out]; exact hlt) hp HK.out
        subst hr2
        have HF2 := Lib.hid HFk
        clear hp HFk HRES
        go_wp2_with fail
        refine HF2.out.mono ?_
        rintro e w' ⟨rfl, hb2⟩
        go_wp2
        go_ret
        exact ⟨rfl, by (repeat' (first | (with_reducible exact Below.refl _ _) | (with_reducible assumption) | (with_reducible refine below_drewN ?_ _) | (with_reducible refine Below.drew ?_) | (with_reducible refine below_new ?_ (Nat.le_refl _) _) | (with_reducible refine Below.setCell ?_ ?_ _) | (with_reducible refine below_go ?_ (by assumption) (Nat.le_refl _)) | (simp; done) | (simp; omega) | omega))⟩
    · obtain rfl : k = n := by omega
      have hr2 : res = none := by rw [← HRES.out]; exact range_find_none (fun j hj => HK.out j (by rw [HN.out] at hj; exact hj))
      subst hr2
      clear HRES
      go_wp2
      go_ret
      exact ⟨rfl, hbr⟩

theorem pins_rowK (kind : Int) (w : World) (ht : Blanks w) : Calls Tryd.prog 32 #[.int .i64 kind] w fun e w' => (∃ A c, e = .returned (.slice A (rcount kind) c) ∧ rcount kind ≤ c ∧ c ≤ 9223372036854775807 ∧ RowK w' A kind) ∧ Below w.heap.size w w' :=
  (pins_any kind w ht).mono fun e w' ⟨v, he, ho, hb⟩ => by
    rw [(tabs_is kind).1, (tabs_is kind).2] at ho
    obtain ⟨A, c, rfl, h1, h2, h3⟩ := rowK_of ho
    exact ⟨⟨A, c, he, h1, h2, h3⟩, hb⟩
theorem cf_pin1 (args : Array Value) (w : World) : Sem.run Tryd.prog (callFunc 34 args) w = .ok (.enter 34 args) w := by
  go_simp

set_option maxHeartbeats 1000000 in
theorem pin1_any (s : ByteArray) (t : Int) (b : Bool) (c : Nat) (nm : ByteArray) (w : World) (hc : w.cell? ⟨c, 0, none⟩ = some (.string nm)) (hl : c < w.heap.size) :
    Calls Tryd.prog 34 #[.agg #[.string s, .int .i64 t, .bool b], .pointer (some ⟨c, 0, none⟩)] w fun e w' => e = .returned (.bool (s.toList == nm.toList)) ∧ Below w.heap.size w w' := by
  go_enter Tryd.func34, Tryd.ntmps34
  go_wp2
  go_ret
  exact ⟨rfl, by (repeat' (first | (with_reducible exact Below.refl _ _) | (with_reducible assumption) | (with_reducible refine below_drewN ?_ _) | (with_reducible refine Below.drew ?_) | (with_reducible refine below_new ?_ (Nat.le_refl _) _) | (with_reducible refine Below.setCell ?_ ?_ _) | (with_reducible refine below_go ?_ (by assumption) (Nat.le_refl _)) | (simp; done) | (simp; omega) | omega))⟩

end Go.Proofs.YtpgkebfdfhdliaaDoor

namespace Go.Proofs.YtpgkebfdfhdliaaDoor
open Go.RowKit
set_option linter.unusedVariables false
set_option linter.unusedSimpArgs false
attribute [local go_sem] ite_max ite_min vite_max vite_min ext_cell ext_frozen extS_cell extS_frozen

def pinNo : Value := .tuple #[.int .i64 0, .agg #[.string ⟨#[]⟩, .int .i64 0, .bool false], .bool false]
def pinK (a : Nat) (ty : Int) : Option Nat → Value
  | some k => .tuple #[.int .i64 (a + k), pinA ty k, .bool true]
  | none => pinNo
/-- where a block's pin stands -/
def pinO (fd : ByteArray) : Option (Nat × VarS) → Value
  | some (a, v) => if 2 < v.type then pinK a v.type (pinF v.type fd) else pinNo
  | none => pinNo
theorem atV_mem {nm : ByteArray} {a : Nat} {v : VarS} : ∀ {l : List VarS} {o : Nat}, atV nm o l = some (a, v) → v ∈ l ∧ a ≤ o + sumN l
  | [], o, h => by simp [atV] at h
  | x :: l, o, h => by
    unfold atV at h
    by_cases hx : sameN nm x = true
    · rw [if_pos hx] at h
      cases h
      exact ⟨List.mem_cons_self, Nat.le_add_right _ _⟩
    · rw [if_neg hx] at h
      obtain ⟨h1, h2⟩ := atV_mem h
      refine ⟨List.mem_cons_of_mem _ h1, ?_⟩
      show a ≤ o + (cellsN x + sumN l)
      omega
/-- the call's own variable for a pin -/
def ResP (W : World) (E : Nat) : Prop := W.cell? ⟨E, 0, none⟩ = some (.string ⟨#[]⟩) ∧ W.cell? ⟨E, 1, none⟩ = some (.int .i64 0) ∧ W.cell? ⟨E, 2, none⟩ = some (.bool false) ∧ W.frozen? ⟨E, 0, none⟩ = false ∧ W.frozen? ⟨E, 1, none⟩ = false ∧ W.frozen? ⟨E, 2, none⟩ = false ∧ E < W.heap.size
theorem ResP.below {W W' : World} {E : Nat} (h : ResP W E) (hb : Below W.heap.size W W') : ResP W' E := by
  obtain ⟨h0, h1, h2, h3, h4, h5, hl⟩ := h
  exact ⟨(hb.cell (p := ⟨E, 0, none⟩) hl).trans h0, (hb.cell (p := ⟨E, 1, none⟩) hl).trans h1, (hb.cell (p := ⟨E, 2, none⟩) hl).trans h2, (hb.frozen (p := ⟨E, 0, none⟩) hl).trans h3, (hb.frozen (p := ⟨E, 1, none⟩) hl).trans h4, (hb.frozen (p := ⟨E, 2, none⟩) hl).trans h5, Nat.lt_of_lt_of_le hl hb.size⟩

set_option maxRecDepth 100000 in
set_option maxHeartbeats 4000000 in
theorem pin22_any (p : Prg) (cs : List Value) (nm fd : ByteArray) (w : World) (h : PrgAt w p cs) (hfit : ∀ v ∈ p.vars, ArrOk v) (hn64 : p.vars.length ≤ 64) : Calls Tryd.prog 15 #[.agg cs.toArray, .string nm, .string fd] w fun e w' => e = .returned (pinO fd (atV nm 0 p.vars)) ∧ Below w.heap.size w w' := by
  obtain ⟨Av, kv, Ab, kb, rfl, hv, hbd⟩ := h
  have HAT : Hid (∀ W, Below w.heap.size w W → Calls Tryd.prog 13 #[.agg #[.string p.name, .slice Av p.vars.length kv, .slice Ab p.body.length kb], .string nm] W fun e w' => e = .returned (atO (atV nm 0 p.vars)) ∧ Below W.heap.size W w') := Lib.hid (fun W hW => at22_any p _ nm W ⟨Av, kv, Ab, kb, rfl, hv.below hW, hbd.below hW⟩ hfit hn64)
  obtain ⟨n, hn⟩ : ∃ n, p.vars.length = n := ⟨_, rfl⟩
  obtain ⟨nb, hnb⟩ : ∃ n, p.body.length = n := ⟨_, rfl⟩
  obtain ⟨at_, hat⟩ : ∃ r, atV nm 0 p.vars = r := ⟨_, rfl⟩
  have hsum : sumN p.vars ≤ 16384 := by
    have := firstsV_few (vs := p.vars) (i := p.vars.length) (fun v hv => cellsN_few (hfit v hv)) (Nat.le_refl _)
    rw [firstsV_len, List.take_of_length_le (Nat.le_refl _)] at this
    omega
  have hbound : ∀ a v, at_ = some (a, v) → a ≤ 16384 := fun a v he => by
    rw [← hat] at he
    have := (atV_mem he).2
    omega
  show Calls Tryd.prog 15 #[.agg #[.string p.name, .slice Av p.vars.length kv, .slice Ab p.body.length kb], .string nm, .string fd] w _
  rw [hat] at HAT ⊢
  rw [hn, hnb] at HAT ⊢
  clear hv hbd hfit hn hnb hat hn64 hsum
  go_enter Tryd.func15, Tryd.ntmps15
  go_upto_region 1 with (fail)
  refine wp_name fun W hW => ?_
  obtain ⟨B, hB⟩ : ∃ B, B = w.heap.size := ⟨_, rfl⟩
  have hB1 : B + 1 = w.heap.size + 1 := by omega
  have p0 : W.cell? ⟨B, 0, none⟩ = some (.string p.name) := by rw [hW.out, hB]; go_simp
  have p1 : W.cell? ⟨B, 1, none⟩ = some (.slice Av n kv) := by rw [hW.out, hB]; go_simp
  have p2 : W.cell? ⟨B, 2, none⟩ = some (.slice Ab nb kb) := by rw [hW.out, hB]; go_simp
  have hR : ResP W (B + 1) := by
    refine ⟨?_, ?_, ?_, ?_, ?_, ?_, by rw [hW.out, hB]; simp⟩
    all_goals (rw [hW.out, hB1]; go_simp)
  have hbel : Below w.heap.size w W := by rw [hW.out]; (repeat' (first | (with_reducible exact Below.refl _ _) | (with_reducible assumption) | (with_reducible refine below_drewN ?_ _) | (with_reducible refine Below.drew ?_) | (with_reducible refine below_new ?_ (Nat.le_refl _) _) | (with_reducible refine Below.setCell ?_ ?_ _) | (with_reducible refine below_go ?_ (by assumption) (Nat.le_refl _)) | (simp; done) | (simp; omega) | omega))
  have lB : B < W.heap.size := by rw [hW.out, hB]; simp; omega
  rw [show w.heap.size + 1 = B + 1 by omega, ← hB]
  have HB := Lib.hid hbel
  have HR := Lib.hid hR
  have hwB : w.heap.size ≤ B := by omega
  clear hW hbel hR hB hB1
  go_wp2_with fail
  refine (HAT.out _ HB.out).mono ?_
  rintro e w1 ⟨rfl, hb1⟩
  have HR1 := Lib.hid (HR.out.below hb1)
  have HB1 := Lib.hid (HB.out.trans (hb1.mono HB.out.size))
  clear hb1 p0 p1 p2 lB HR HB
  cases at_ with
  | none =>
    obtain ⟨z0, z1, z2, f0, f1, f2, hlz⟩ := HR1.out
    have hz := HB1.out.size
    unfold atO
    go_upto_region 2 with (refine wpList_store_new rfl 35 _ _ rfl w1 _ varZs rfl rfl rfl var_size8 rfl varZs_one ?_)
    go_wp2
    refine bodyPost_ret (v := pinNo) (by simp [pinNo, results, Tryd.results15, go_sem, z0, z1, z2, f0, f1, f2, hlz]) rfl ⟨rfl, ?_⟩
    have := HB1.out
    (repeat' (first | (with_reducible exact Below.refl _ _) | (with_reducible assumption) | (with_reducible refine below_drewN ?_ _) | (with_reducible refine Below.drew ?_) | (with_reducible refine below_new ?_ (Nat.le_refl _) _) | (with_reducible refine Below.setCell ?_ ?_ _) | (with_reducible refine below_go ?_ (by assumption) (Nat.le_refl _)) | (simp; done) | (simp; omega) | omega))
  | some av =>
    obtain ⟨a, v⟩ := av
    have ha := hbound a v rfl
    obtain ⟨ty, hty⟩ : ∃ t, v.type = t := ⟨_, rfl⟩
    have hz := HB1.out.size
    have hlz1 := HR1.out.2.2.2.2.2.2
    unfold atO
    go_upto_region 2 with (refine wpList_store_new rfl 35 _ _ rfl w1 _ v.cells.toArray rfl rfl rfl var_size8 rfl (var_one8 v) ?_)
    refine wp_name fun W2 hW2 => ?_
    obtain ⟨V, hV⟩ : ∃ V, V = w1.heap.size := ⟨_, rfl⟩
    have hh : W2.heap[V]? = some (.cells v.cells.toArray 35) := by rw [hW2.out, hV]; exact heap_alloc_new _ _
    have hb2 : Below w1.heap.size w1 W2 := by rw [hW2.out]; (repeat' (first | (with_reducible exact Below.refl _ _) | (with_reducible assumption) | (with_reducible refine below_drewN ?_ _) | (with_reducible refine Below.drew ?_) | (with_reducible refine below_new ?_ (Nat.le_refl _) _) | (with_reducible refine Below.setCell ?_ ?_ _) | (with_reducible refine below_go ?_ (by assumption) (Nat.le_refl _)) | (simp; done) | (simp; omega) | omega))
    have lV : V < W2.heap.size := (Array.getElem?_eq_some_iff.1 hh).1
    rw [← hV]
    have v1 : W2.cell? ⟨V, 1, none⟩ = some (.int .i64 ty) := by rw [← hty]; exact heap_cell 1 _ hh rfl
    have HR2 := Lib.hid (HR1.out.below hb2)
    have HB2 := Lib.hid (HB1.out.trans (hb2.mono HB1.out.size))
    have HTY := Lib.hid hty
    clear hW2 hV hh hb2 HR1 HB1 hty hz hlz1 hbound
    obtain ⟨z0, z1, z2, f0, f1, f2, hlz⟩ := HR2.out
    have hz := HB2.out.size
    by_cases h3 : ty < 3
    · have hno : pinO fd (some (a, v)) = pinNo := by
        show (if 2 < v.type then _ else pinNo) = pinNo
        rw [if_neg (by rw [HTY.out]; omega)]
      have HNO := Lib.hid hno
      clear hno
      go_wp2
      refine bodyPost_ret (v := pinNo) (by simp [pinNo, results, Tryd.results15, go_sem, z0, z1, z2, f0, f1, f2, hlz]) rfl ⟨by rw [HNO.out], ?_⟩
      have := HB2.out
      (repeat' (first | (with_reducible exact Below.refl _ _) | (with_reducible assumption) | (with_reducible refine below_drewN ?_ _) | (with_reducible refine Below.drew ?_) | (with_reducible refine below_new ?_ (Nat.le_refl _) _) | (with_reducible refine Below.setCell ?_ ?_ _) | (with_reducible refine below_go ?_ (by assumption) (Nat.le_refl _)) | (simp; done) | (simp; omega) | omega))
    · obtain ⟨res, hres⟩ : ∃ r, pinF ty fd = r := ⟨_, rfl⟩
      have hyes : pinO fd (some (a, v)) = pinK a ty res := by
        show (if 2 < v.type then _ else pinNo) = _
        rw [if_pos (by rw [HTY.out]; omega), HTY.out, hres]
      have HRES := Lib.hid hres
      have HYES := Lib.hid hyes
      clear hres hyes
      clear z0 z1 z2 f0 f1 f2 hlz
      go_wp2_with fail
      refine (rpins_rowK ty _).mono ?_
      rintro e w3 ⟨⟨A, c, rfl, hnc, hc, hrow⟩, hb3⟩
      obtain ⟨m, hm⟩ : ∃ n, rcount ty = n := ⟨_, rfl⟩
      have hm64 : m ≤ 64 := by rw [← hm]; exact rcount_few ty
      rw [hm] at hnc ⊢
      have HM := Lib.hid hm
      have HROW := Lib.hid hrow
      have HR3 := Lib.hid (HR2.out.below hb3)
      have HB3 := Lib.hid (HB2.out.trans (hb3.mono HB2.out.size))
      clear hrow hm hb3 HR2 HB2 v1 lV hz
      go_upto_region 6 with (fail)
      go_loopw [13] (fun vi wr => ∃ (i : Nat), i ≤ m ∧ vi = .int .i64 i ∧ Hid (∀ j, j < i → pinHit ty fd j = false) ∧ Below w3.heap.size w3 wr) (fun vi _ => m - (intOf vi).toNat)
      case atStart => exact ⟨0, by omega, rfl, Lib.hid (fun j hj => by omega), Below.refl _ _⟩
      case round =>
        obtain ⟨i, hi, rfl, HNO, hbr⟩ := hrel
        have HRr := Lib.hid (HR3.out.below hbr)
        have HBr := Lib.hid (HB3.out.trans (hbr.mono HB3.out.size))
        obtain ⟨z0, z1, z2, f0, f1, f2, hlz⟩ := HRr.out
        have hz := HBr.out.size
        by_cases hlt : i < m
        · have hi0 : (0 : Int) ≤ (i : Int) ∧ (i : Int) < (m : Int) := by omega
          obtain ⟨b, rfl, hbl, c0, c1, c2⟩ := HROW.out.below hbr i (by rw [HM.out]; exact hlt)
          have HS := Lib.hid hbr
          obtain ⟨s, hs⟩ : ∃ s, pinNm ty i = s := ⟨_, rfl⟩
          obtain ⟨t, ht⟩ : ∃ s, pinTy ty i = s := ⟨_, rfl⟩
          obtain ⟨ii, hii⟩ : ∃ s, pinIn ty i = s := ⟨_, rfl⟩
          rw [hs] at c0
          rw [ht] at c1
          rw [hii] at c2
          have HS0 := Lib.hid hs
          have HT0 := Lib.hid ht
          have HI0 := Lib.hid hii
          have HST : Hid (pinHit ty fd i = false → ∀ j, j < i + 1 → pinHit ty fd j = false) := Lib.hid (fun h0 j hj => by
            rcases Nat.lt_succ_iff_lt_or_eq.1 hj with h | rfl
            · exact HNO.out j h
            · exact h0)
          clear hbr hs ht hii
          cases hq0 : (!fd.toList.isEmpty)
          · have HQ := Lib.hid (HST.out (by unfold pinHit; rw [hq0]; rfl))
            go_wp2
            go_roundw
            case rel => exact ⟨i + 1, by omega, by go_num, HQ, HS.out⟩
            case measure => simp [intOf]; omega
          · cases hq : (s.toList == fd.toList)
            · have HQ := Lib.hid (HST.out (by unfold pinHit; rw [HS0.out, hq0, hq]; rfl))
              go_wp2
              go_roundw
              case rel => exact ⟨i + 1, by omega, by go_num, HQ, HS.out⟩
              case measure => simp [intOf]; omega
            · have hr2 : res = some i := by
                rw [← HRES.out]
                exact range_find (by rw [HM.out]; exact hlt) (by unfold pinHit; rw [HS0.out, hq0, hq]; rfl) HNO.out
              subst hr2
              have hy2 : pinO fd (some (a, v)) = .tuple #[.int .i64 (a + i), .agg #[.string s, .int .i64 t, .bool ii], .bool true] := by
                rw [HYES.out]
                show Value.tuple #[.int .i64 (a + i), pinA ty i, .bool true] = _
                unfold pinA
                rw [HS0.out, HT0.out, HI0.out]
              have HY2 := Lib.hid hy2
              clear hy2 HYES
              go_upto_region 9 with (fail)
              refine wp_region_ext_tail 8 (by kernel_rfl) (by kernel_rfl) ?_
              simp only [List.take_succ_cons, List.take_zero, List.drop_succ_cons, List.drop_zero]
              repeat (go_big_quiet_step (fail))
              refine wpQuiet_nil ?_
              intro w7 hb7
              replace hb7 := ext_below hb7
              have HR7 := Lib.hid (HRr.out.below hb7)
              have HB7 := Lib.hid (HBr.out.trans (hb7.mono HBr.out.size))
              clear hb7 z0 z1 z2 f0 f1 f2 hlz hz c0 c1 c2 HRr HBr
              obtain ⟨z0, z1, z2, f0, f1, f2, hlz⟩ := HR7.out
              have hz := HB7.out.size
              go_wp2
              refine bodyPost_ret (v := .tuple #[.int .i64 (a + i), .agg #[.string s, .int .i64 t, .bool ii], .bool true]) (by simp [results, Tryd.results15, go_sem, z0, z1, z2, f0, f1, f2, hlz]) rfl ⟨by rw [HY2.out], ?_⟩
              have := HB7.out
              (repeat' (first | (with_reducible exact Below.refl _ _) | (with_reducible assumption) | (with_reducible refine below_drewN ?_ _) | (with_reducible refine Below.drew ?_) | (with_reducible refine below_new ?_ (Nat.le_refl _) _) | (with_reducible refine Below.setCell ?_ ?_ _) | (with_reducible refine below_go ?_ (by assumption) (Nat.le_refl _)) | (simp; done) | (simp; omega) | omega))
        · obtain rfl : i = m := by omega
          have hr2 : res = none := by rw [← HRES.out]; exact range_find_none (by rw [HM.out]; exact HNO.out)
          subst hr2
          have HY2 : Hid (pinO fd (some (a, v)) = pinNo) := HYES
          clear HYES
          go_wp2
          refine bodyPost_ret (v := pinNo) (by simp [pinNo, results, Tryd.results15, go_sem, z0, z1, z2, f0, f1, f2, hlz]) rfl ⟨by rw [HY2.out], ?_⟩
          have := HBr.out
          (repeat' (first | (with_reducible exact Below.refl _ _) | (with_reducible assumption) | (with_reducible refine below_drewN ?_ _) | (with_reducible refine Below.drew ?_) | (with_reducible refine below_new ?_ (Nat.le_refl _) _) | (with_reducible refine Below.setCell ?_ ?_ _) | (with_reducible refine below_go ?_ (by assumption) (Nat.le_refl _)) | (simp; done) | (simp; omega) | omega))

end Go.Proofs.YtpgkebfdfhdliaaDoor

namespace Go.Proofs.YtpgkebfdfhdliaaDoor
open Go.RowKit
set_option linter.unusedVariables false
set_option linter.unusedSimpArgs false
attribute [local go_sem] ite_max ite_min vite_max vite_min ext_cell ext_frozen extS_cell extS_frozen

set_option maxRecDepth 100000 in
set_option maxHeartbeats 4000000 in
theorem laypin_any (p : Prg) (cs : List Value) (nm fd : ByteArray) (w : World) (h : PrgAt w p cs) (hfit : ∀ v ∈ p.vars, ArrOk v) (hn64 : p.vars.length ≤ 64) (ht : Blanks w) : Calls Tryd.prog 14 #[.agg cs.toArray, .string nm, .string fd] w fun e w' => e = .returned (pinO fd (atV nm 0 p.vars)) ∧ Below w.heap.size w w' := by
  obtain ⟨Av, kv, Ab, kb, rfl, hv, hbd⟩ := h
  have HAT : Hid (∀ W, Below w.heap.size w W → Calls Tryd.prog 12 #[.agg #[.string p.name, .slice Av p.vars.length kv, .slice Ab p.body.length kb], .string nm] W fun e w' => e = .returned (atO (atV nm 0 p.vars)) ∧ Below W.heap.size W w') := Lib.hid (fun W hW => layat_any p _ nm W ⟨Av, kv, Ab, kb, rfl, hv.below hW, hbd.below hW⟩ hfit hn64 (ht.on hW))
  have HT := Lib.hid ht
  obtain ⟨n, hn⟩ : ∃ n, p.vars.length = n := ⟨_, rfl⟩
  obtain ⟨nb, hnb⟩ : ∃ n, p.body.length = n := ⟨_, rfl⟩
  obtain ⟨at_, hat⟩ : ∃ r, atV nm 0 p.vars = r := ⟨_, rfl⟩
  have hsum : sumN p.vars ≤ 16384 := by
    have := firstsV_few (vs := p.vars) (i := p.vars.length) (fun v hv => cellsN_few (hfit v hv)) (Nat.le_refl _)
    rw [firstsV_len, List.take_of_length_le (Nat.le_refl _)] at this
    omega
  have hbound : ∀ a v, at_ = some (a, v) → a ≤ 16384 := fun a v he => by
    rw [← hat] at he
    have := (atV_mem he).2
    omega
  show Calls Tryd.prog 14 #[.agg #[.string p.name, .slice Av p.vars.length kv, .slice Ab p.body.length kb], .string nm, .string fd] w _
  rw [hat] at HAT ⊢
  rw [hn, hnb] at HAT ⊢
  clear hv hbd hfit hn hnb hat hn64 hsum ht
  go_enter Tryd.func14, Tryd.ntmps14
  go_upto_region 1 with (fail)
  refine wp_name fun W hW => ?_
  obtain ⟨B, hB⟩ : ∃ B, B = w.heap.size := ⟨_, rfl⟩
  have hB1 : B + 1 = w.heap.size + 1 := by omega
  have hB2 : B + 2 = w.heap.size + 1 + 1 := by omega
  have p0 : W.cell? ⟨B, 0, none⟩ = some (.string p.name) := by rw [hW.out, hB]; go_simp
  have p1 : W.cell? ⟨B, 1, none⟩ = some (.slice Av n kv) := by rw [hW.out, hB]; go_simp
  have p2 : W.cell? ⟨B, 2, none⟩ = some (.slice Ab nb kb) := by rw [hW.out, hB]; go_simp
  have HFD : Hid (∀ W', Below W.heap.size W W' → W'.cell? ⟨B + 1, 0, none⟩ = some (.string fd) ∧ B + 1 < W'.heap.size) := Lib.hid (fun W' hW' => by
    have hl : B + 1 < W.heap.size := by rw [hW.out, hB]; simp
    exact ⟨(hW'.cell (p := ⟨B + 1, 0, none⟩) hl).trans (by rw [hW.out, hB1]; go_simp), Nat.lt_of_lt_of_le hl hW'.size⟩)
  have hR : ResP W (B + 2) := by
    refine ⟨?_, ?_, ?_, ?_, ?_, ?_, by rw [hW.out, hB]; simp⟩
    all_goals (rw [hW.out, hB2]; go_simp)
  have hbel : Below w.heap.size w W := by rw [hW.out]; (repeat' (first | (with_reducible exact Below.refl _ _) | (with_reducible assumption) | (with_reducible refine below_drewN ?_ _) | (with_reducible refine Below.drew ?_) | (with_reducible refine below_new ?_ (Nat.le_refl _) _) | (with_reducible refine Below.setCell ?_ ?_ _) | (with_reducible refine below_go ?_ (by assumption) (Nat.le_refl _)) | (simp; done) | (simp; omega) | omega))
  have lB : B < W.heap.size := by rw [hW.out, hB]; simp; omega
  rw [show w.heap.size + 1 + 1 = B + 2 by omega, show w.heap.size + 1 = B + 1 by omega, ← hB]
  have HB := Lib.hid hbel
  have HR := Lib.hid hR
  have hwB : w.heap.size ≤ B := by omega
  clear hW hbel hR hB hB1 hB2
  go_wp2_with fail
  refine (HAT.out _ HB.out).mono ?_
  rintro e w1 ⟨rfl, hb1⟩
  have HS1 := Lib.hid hb1
  have HR1 := Lib.hid (HR.out.below hb1)
  have HB1 := Lib.hid (HB.out.trans (hb1.mono HB.out.size))
  clear hb1 p0 p1 p2 lB HR HB
  cases at_ with
  | none =>
    obtain ⟨z0, z1, z2, f0, f1, f2, hlz⟩ := HR1.out
    have hz := HB1.out.size
    unfold atO
    go_upto_region 2 with (refine wpList_store_new rfl 35 _ _ rfl w1 _ varZs rfl rfl rfl var_size8 rfl varZs_one ?_)
    go_wp2
    refine bodyPost_ret (v := pinNo) (by simp [pinNo, results, Tryd.results14, go_sem, z0, z1, z2, f0, f1, f2, hlz]) rfl ⟨rfl, ?_⟩
    have := HB1.out
    (repeat' (first | (with_reducible exact Below.refl _ _) | (with_reducible assumption) | (with_reducible refine below_drewN ?_ _) | (with_reducible refine Below.drew ?_) | (with_reducible refine below_new ?_ (Nat.le_refl _) _) | (with_reducible refine Below.setCell ?_ ?_ _) | (with_reducible refine below_go ?_ (by assumption) (Nat.le_refl _)) | (simp; done) | (simp; omega) | omega))
  | some av =>
    obtain ⟨a, v⟩ := av
    have ha := hbound a v rfl
    obtain ⟨ty, hty⟩ : ∃ t, v.type = t := ⟨_, rfl⟩
    have hz := HB1.out.size
    have hlz1 := HR1.out.2.2.2.2.2.2
    unfold atO
    go_upto_region 2 with (refine wpList_store_new rfl 35 _ _ rfl w1 _ v.cells.toArray rfl rfl rfl var_size8 rfl (var_one8 v) ?_)
    refine wp_name fun W2 hW2 => ?_
    obtain ⟨V, hV⟩ : ∃ V, V = w1.heap.size := ⟨_, rfl⟩
    have hh : W2.heap[V]? = some (.cells v.cells.toArray 35) := by rw [hW2.out, hV]; exact heap_alloc_new _ _
    have hb2 : Below w1.heap.size w1 W2 := by rw [hW2.out]; (repeat' (first | (with_reducible exact Below.refl _ _) | (with_reducible assumption) | (with_reducible refine below_drewN ?_ _) | (with_reducible refine Below.drew ?_) | (with_reducible refine below_new ?_ (Nat.le_refl _) _) | (with_reducible refine Below.setCell ?_ ?_ _) | (with_reducible refine below_go ?_ (by assumption) (Nat.le_refl _)) | (simp; done) | (simp; omega) | omega))
    have lV : V < W2.heap.size := (Array.getElem?_eq_some_iff.1 hh).1
    rw [← hV]
    have v1 : W2.cell? ⟨V, 1, none⟩ = some (.int .i64 ty) := by rw [← hty]; exact heap_cell 1 _ hh rfl
    have HS2 := Lib.hid (HS1.out.trans (hb2.mono HS1.out.size))
    have HR2 := Lib.hid (HR1.out.below hb2)
    have HB2 := Lib.hid (HB1.out.trans (hb2.mono HB1.out.size))
    have HTY := Lib.hid hty
    obtain ⟨g0, lg⟩ := HFD.out W2 HS2.out
    clear hW2 hV hh hb2 HR1 HB1 HS1 hty hz hlz1 hbound
    obtain ⟨z0, z1, z2, f0, f1, f2, hlz⟩ := HR2.out
    have hz := HB2.out.size
    by_cases h3 : ty ≤ 2
    · have hno : pinO fd (some (a, v)) = pinNo := by
        show (if 2 < v.type then _ else pinNo) = pinNo
        rw [if_neg (by rw [HTY.out]; omega)]
      have HNO := Lib.hid hno
      clear hno
      go_wp2
      refine bodyPost_ret (v := pinNo) (by simp [pinNo, results, Tryd.results14, go_sem, z0, z1, z2, f0, f1, f2, hlz]) rfl ⟨by rw [HNO.out], ?_⟩
      have := HB2.out
      (repeat' (first | (with_reducible exact Below.refl _ _) | (with_reducible assumption) | (with_reducible refine below_drewN ?_ _) | (with_reducible refine Below.drew ?_) | (with_reducible refine below_new ?_ (Nat.le_refl _) _) | (with_reducible refine Below.setCell ?_ ?_ _) | (with_reducible refine below_go ?_ (by assumption) (Nat.le_refl _)) | (simp; done) | (simp; omega) | omega))
    · have hyes : pinO fd (some (a, v)) = pinK a ty (pinF ty fd) := by
        show (if 2 < v.type then _ else pinNo) = _
        rw [if_pos (by rw [HTY.out]; omega), HTY.out]
      have HYES := Lib.hid hyes
      clear hyes
      cases hq0 : (fd.toList.isEmpty)
      · obtain ⟨res, hres⟩ : ∃ r, (List.range (rcount ty)).find? (fun k => (pinNm ty k).toList == fd.toList) = r := ⟨_, rfl⟩
        have hpf : pinF ty fd = res := by
          rw [← hres]
          unfold pinF
          congr 1
          funext k
          unfold pinHit
          rw [hq0]
          rfl
        rw [hpf] at HYES
        have HRES := Lib.hid hres
        have HQ0 := Lib.hid hq0
        have hq1 : (fd.toList == []) = false := by
          cases hfl : fd.toList with
          | nil => rw [hfl] at hq0; cases hq0
          | cons x l => rfl
        clear hres hpf z0 z1 z2 f0 f1 f2 hlz
        go_wp2_with fail
        refine (pins_rowK ty _ (HT.out.on HB2.out)).mono ?_
        rintro e w3 ⟨⟨A, c, rfl, hnc, hc, hrow⟩, hb3⟩
        have HROW := Lib.hid hrow
        have HS3 := Lib.hid (HS2.out.trans (hb3.mono HS2.out.size))
        have HR3 := Lib.hid (HR2.out.below hb3)
        have HB3 := Lib.hid (HB2.out.trans (hb3.mono HB2.out.size))
        clear hrow hb3 HR2 HB2 HS2 v1 lV hz g0 lg
        go_wp2_with fail
        refine (ix_pin 34 _ (fun k => (pinNm ty k).toList == fd.toList) ty A c w3 ⟨hnc, hc⟩ HROW.out cf_pin1 (fun k w' hw' => ?_)).mono ?_
        · obtain ⟨g0, lg⟩ := HFD.out w' (HS3.out.trans (hw'.mono HS3.out.size))
          exact pin1_any (pinNm ty k) (pinTy ty k) (pinIn ty k) (B + 1) fd w' g0 lg
        rintro e w4 ⟨rfl, hb4⟩
        have HROW4 := Lib.hid (HROW.out.below hb4)
        have HR4 := Lib.hid (HR3.out.below hb4)
        have HB4 := Lib.hid (HB3.out.trans (hb4.mono HB3.out.size))
        rw [HRES.out]
        clear hb4 HR3 HB3 HS3 HROW
        obtain ⟨z0, z1, z2, f0, f1, f2, hlz⟩ := HR4.out
        have hz := HB4.out.size
        cases res with
        | none =>
          have HY2 : Hid (pinO fd (some (a, v)) = pinNo) := HYES
          unfold ixV
          clear HYES
          go_wp2
          refine bodyPost_ret (v := pinNo) (by simp [pinNo, results, Tryd.results14, go_sem, z0, z1, z2, f0, f1, f2, hlz]) rfl ⟨by rw [HY2.out], ?_⟩
          have := HB4.out
          (repeat' (first | (with_reducible exact Below.refl _ _) | (with_reducible assumption) | (with_reducible refine below_drewN ?_ _) | (with_reducible refine Below.drew ?_) | (with_reducible refine below_new ?_ (Nat.le_refl _) _) | (with_reducible refine Below.setCell ?_ ?_ _) | (with_reducible refine below_go ?_ (by assumption) (Nat.le_refl _)) | (simp; done) | (simp; omega) | omega))
        | some k =>
          have hk : k < rcount ty := by
            have := List.mem_of_find?_eq_some HRES.out
            simpa using this
          obtain ⟨m, hm⟩ : ∃ n, rcount ty = n := ⟨_, rfl⟩
          have hm64 : m ≤ 64 := by rw [← hm]; exact rcount_few ty
          obtain ⟨b, rfl, hbl, c0, c1, c2⟩ := HROW4.out k hk
          rw [hm] at hnc hk ⊢
          have hi0 : (0 : Int) ≤ (k : Int) ∧ (k : Int) < (m : Int) := by omega
          obtain ⟨s, hs⟩ : ∃ s, pinNm ty k = s := ⟨_, rfl⟩
          obtain ⟨t, ht⟩ : ∃ s, pinTy ty k = s := ⟨_, rfl⟩
          obtain ⟨ii, hii⟩ : ∃ s, pinIn ty k = s := ⟨_, rfl⟩
          have hy2 : pinO fd (some (a, v)) = .tuple #[.int .i64 (a + k), .agg #[.string s, .int .i64 t, .bool ii], .bool true] := by
            rw [HYES.out]
            show Value.tuple #[.int .i64 (a + k), pinA ty k, .bool true] = _
            unfold pinA
            rw [hs, ht, hii]
          rw [hs] at c0
          rw [ht] at c1
          rw [hii] at c2
          have HY2 := Lib.hid hy2
          unfold ixV
          clear hy2 HYES hs ht hii hm
          go_upto_region 8 with (fail)
          refine wp_region_ext_tail 8 (by kernel_rfl) (by kernel_rfl) ?_
          simp only [List.take_succ_cons, List.take_zero, List.drop_succ_cons, List.drop_zero]
          repeat (go_big_quiet_step (fail))
          refine wpQuiet_nil ?_
          intro w7 hb7
          replace hb7 := ext_below hb7
          have HR7 := Lib.hid (HR4.out.below hb7)
          have HB7 := Lib.hid (HB4.out.trans (hb7.mono HB4.out.size))
          clear hb7 z0 z1 z2 f0 f1 f2 hlz hz c0 c1 c2 HR4 HB4
          obtain ⟨z0, z1, z2, f0, f1, f2, hlz⟩ := HR7.out
          have hz := HB7.out.size
          go_wp2
          refine bodyPost_ret (v := .tuple #[.int .i64 (a + k), .agg #[.string s, .int .i64 t, .bool ii], .bool true]) (by simp [results, Tryd.results14, go_sem, z0, z1, z2, f0, f1, f2, hlz]) rfl ⟨by rw [HY2.out], ?_⟩
          have := HB7.out
          (repeat' (first | (with_reducible exact Below.refl _ _) | (with_reducible assumption) | (with_reducible refine below_drewN ?_ _) | (with_reducible refine Below.drew ?_) | (with_reducible refine below_new ?_ (Nat.le_refl _) _) | (with_reducible refine Below.setCell ?_ ?_ _) | (with_reducible refine below_go ?_ (by assumption) (Nat.le_refl _)) | (simp; done) | (simp; omega) | omega))
      · have hpf : pinF ty fd = none := range_find_none (fun j _ => by unfold pinHit; rw [hq0]; rfl)
        rw [hpf] at HYES
        have HY2 : Hid (pinO fd (some (a, v)) = pinNo) := HYES
        have hfl : fd.toList = [] := by
          cases hfl : fd.toList with
          | nil => rfl
          | cons x l => rw [hfl] at hq0; cases hq0
        clear HYES hpf
        go_wp2
        refine bodyPost_ret (v := pinNo) (by simp [pinNo, results, Tryd.results14, go_sem, z0, z1, z2, f0, f1, f2, hlz]) rfl ⟨by rw [HY2.out], ?_⟩
        have := HB2.out
        (repeat' (first | (with_reducible exact Below.refl _ _) | (with_reducible assumption) | (with_reducible refine below_drewN ?_ _) | (with_reducible refine Below.drew ?_) | (with_reducible refine below_new ?_ (Nat.le_refl _) _) | (with_reducible refine Below.setCell ?_ ?_ _) | (with_reducible refine below_go ?_ (by assumption) (Nat.le_refl _)) | (simp; done) | (simp; omega) | omega))

end Go.Proofs.YtpgkebfdfhdliaaDoor

namespace Go.Proofs.YtpgkebfdfhdliaaDoor
open Go.RowKit
set_option linter.unusedVariables false
set_option linter.unusedSimpArgs false
attribute [local go_sem] ite_max ite_min vite_max vite_min ext_cell ext_frozen extS_cell extS_frozen

/-- a row of numbers, by its cells -/
def RowN (w : World) (A : Option Addr) (zs : List Int) (cap : Nat) : Prop := zs.length ≤ cap ∧ cap ≤ 9223372036854775807 ∧ ∀ i z, zs[i]? = some z → ∃ b off, A = some ⟨b, off, none⟩ ∧ b < w.heap.size ∧ w.cell? ⟨b, off + i, none⟩ = some (.int .i64 z)
theorem RowN.below {w w' : World} {A : Option Addr} {zs : List Int} {cap : Nat} (h : RowN w A zs cap) (hb : Below w.heap.size w w') : RowN w' A zs cap :=
  ⟨h.1, h.2.1, fun i z hz => by
    obtain ⟨b, off, h1, h2, h3⟩ := h.2.2 i z hz
    exact ⟨b, off, h1, Nat.lt_of_lt_of_le h2 hb.size, (hb.cell (p := ⟨b, _, none⟩) h2).trans h3⟩⟩
theorem rowN_of {w : World} {H : Nat} {T : TypeId} {A : Option Addr} {n c : Nat} {zs : List Int} (h : w.ownsRow H T 1 (.slice A n c) n (intsV .i64 zs)) : RowN w A zs c ∧ n = zs.length := by
  have hl : n = zs.length := by have := h.1; rw [intsV_len] at this; omega
  refine ⟨?_, hl⟩
  rcases h.2 with ⟨h1, h2⟩ | ⟨g, cap, cur, h1, hb, hg, hnc, hcm, hcs, htake⟩
  · injection h1 with h1 h3 h4
    subst h1 h4
    have : zs = [] := List.eq_nil_of_length_eq_zero (by omega)
    subst this
    exact ⟨Nat.le_refl _, by omega, fun i z hz => by simp at hz⟩
  · injection h1 with h1 h3 h4
    subst h1 h4
    refine ⟨by omega, by unfold maxLen at hcm; exact hcm, fun i z hz => ⟨g, 0, rfl, (Array.getElem?_eq_some_iff.1 hg).1, ?_⟩⟩
    rw [Nat.zero_add]
    exact owns_cell h rfl (by simp [intsV, hz])

set_option maxRecDepth 100000 in
set_option maxHeartbeats 2000000 in
theorem sameints_any (zs : List Int) (w : World) (A B : Option Addr) (ca cb : Nat) (hA : RowN w A zs ca) (hB : RowN w B zs cb) :
    Calls Tryd.prog 30 #[.slice A zs.length ca, .slice B zs.length cb] w fun e w' => e = .returned (.bool true) ∧ Below w.heap.size w w' := by
  have HA := Lib.hid hA
  have HB := Lib.hid hB
  have hla := hA.1
  have hca := hA.2.1
  have hlb := hB.1
  have hcb := hB.2.1
  obtain ⟨n, hn⟩ : ∃ n, zs.length = n := ⟨_, rfl⟩
  rw [hn] at hla hlb ⊢
  have HN := Lib.hid hn
  clear hA hB hn
  go_enter Tryd.func30, Tryd.ntmps30
  go_wp2_with fail
  go_loopw [5] (fun vi wr => ∃ (i : Nat), i ≤ n ∧ vi = .int .i64 i ∧ Below w.heap.size w wr) (fun vi _ => n - (intOf vi).toNat)
  case atStart => exact ⟨0, by omega, rfl, Below.refl _ _⟩
  case round =>
    obtain ⟨i, hi, rfl, hbr⟩ := hrel
    by_cases hlt : i < n
    · obtain ⟨z, hz⟩ : ∃ z, zs[i]? = some z := ⟨_, List.getElem?_eq_getElem (by rw [HN.out]; exact hlt)⟩
      obtain ⟨b1, o1, rfl, hb1, c1⟩ := (HA.out.below hbr).2.2 i z hz
      obtain ⟨b2, o2, rfl, hb2, c2⟩ := (HB.out.below hbr).2.2 i z hz
      have hi0 : (0 : Int) ≤ (i : Int) ∧ (i : Int) < (n : Int) := by omega
      clear hz
      go_wp2_with fail
      refine wp_region_ext (by kernel_rfl) (by kernel_rfl) ?_
      repeat (go_big_quiet_step (fail))
      refine wpQuiet_nil ?_
      intro v8 hv8
      replace hv8 := ext_below hv8
      go_wp2
      go_roundw
      case rel => exact ⟨i + 1, by omega, by go_num, hbr.trans (hv8.mono hbr.size)⟩
      case measure => simp [intOf]; omega
    · obtain rfl : i = n := by omega
      go_wp2
      go_ret
      exact ⟨rfl, hbr⟩

set_option maxRecDepth 100000 in
set_option maxHeartbeats 2000000 in
theorem same16n_any (zs : List Int) (w : World) (A B : Option Addr) (ca cb : Nat) (hA : RowN w A zs ca) (hB : RowN w B zs cb) :
    Calls Tryd.prog 22 #[.slice A zs.length ca, .slice B zs.length cb] w fun e w' => e = .returned (.bool true) ∧ Below w.heap.size w w' := by
  have HA := Lib.hid hA
  have HB := Lib.hid hB
  have hla := hA.1
  have hca := hA.2.1
  have hlb := hB.1
  have hcb := hB.2.1
  obtain ⟨n, hn⟩ : ∃ n, zs.length = n := ⟨_, rfl⟩
  rw [hn] at hla hlb ⊢
  have HN := Lib.hid hn
  clear hA hB hn
  go_enter Tryd.func22, Tryd.ntmps22
  go_wp2_with fail
  go_loopw [5] (fun vi wr => ∃ (i : Nat), i ≤ n ∧ vi = .int .i64 i ∧ Below w.heap.size w wr) (fun vi _ => n - (intOf vi).toNat)
  case atStart => exact ⟨0, by omega, rfl, Below.refl _ _⟩
  case round =>
    obtain ⟨i, hi, rfl, hbr⟩ := hrel
    by_cases hlt : i < n
    · obtain ⟨z, hz⟩ : ∃ z, zs[i]? = some z := ⟨_, List.getElem?_eq_getElem (by rw [HN.out]; exact hlt)⟩
      obtain ⟨b1, o1, rfl, hb1, c1⟩ := (HA.out.below hbr).2.2 i z hz
      obtain ⟨b2, o2, rfl, hb2, c2⟩ := (HB.out.below hbr).2.2 i z hz
      have hi0 : (0 : Int) ≤ (i : Int) ∧ (i : Int) < (n : Int) := by omega
      clear hz
      go_wp2_with fail
      refine wp_region_ext (by kernel_rfl) (by kernel_rfl) ?_
      repeat (go_big_quiet_step (fail))
      refine wpQuiet_nil ?_
      intro v8 hv8
      replace hv8 := ext_below hv8
      go_wp2
      go_roundw
      case rel => exact ⟨i + 1, by omega, by go_num, hbr.trans (hv8.mono hbr.size)⟩
      case measure => simp [intOf]; omega
    · obtain rfl : i = n := by omega
      go_wp2
      go_ret
      exact ⟨rfl, hbr⟩

set_option maxRecDepth 100000 in
set_option maxHeartbeats 2000000 in
theorem same22_any (zs fs : List Int) (k : Int) (w : World) (A B C D : Option Addr) (a b c d : Nat) (hA : RowN w A zs a) (hB : RowN w B zs b) (hC : RowN w C fs c) (hD : RowN w D fs d) :
    Calls Tryd.prog 9 #[.agg #[.slice A zs.length a, .int .i64 k, .slice C fs.length c], .agg #[.slice B zs.length b, .int .i64 k, .slice D fs.length d]] w fun e w' => e = .returned (.bool true) ∧ Below w.heap.size w w' := by
  have HA := Lib.hid hA
  have HB := Lib.hid hB
  have HC := Lib.hid hC
  have HD := Lib.hid hD
  have H1 : Hid (∀ W, Below w.heap.size w W → Calls Tryd.prog 30 #[.slice A zs.length a, .slice B zs.length b] W fun e w' => e = .returned (.bool true) ∧ Below W.heap.size W w') := Lib.hid (fun W hW => sameints_any zs W A B a b (hA.below hW) (hB.below hW))
  have H2 : Hid (∀ W, Below w.heap.size w W → Calls Tryd.prog 22 #[.slice C fs.length c, .slice D fs.length d] W fun e w' => e = .returned (.bool true) ∧ Below W.heap.size W w') := Lib.hid (fun W hW => same16n_any fs W C D c d (hC.below hW) (hD.below hW))
  obtain ⟨n, hn⟩ : ∃ n, zs.length = n := ⟨_, rfl⟩
  obtain ⟨m, hm⟩ : ∃ n, fs.length = n := ⟨_, rfl⟩
  rw [hn] at H1 ⊢
  rw [hm] at H2 ⊢
  clear hA hB hC hD hn hm HA HB HC HD
  go_enter Tryd.func9, Tryd.ntmps9
  go_upto_region 1 with (fail)
  refine wp_name fun W hW => ?_
  obtain ⟨K, hK⟩ : ∃ K, K = w.heap.size := ⟨_, rfl⟩
  have hK1 : K + 1 = w.heap.size + 1 := by omega
  have HCW : Hid (∀ W', Below W.heap.size W W' → W'.cell? ⟨K, 0, none⟩ = some (.slice A n a) ∧ W'.cell? ⟨K, 1, none⟩ = some (.int .i64 k) ∧ W'.cell? ⟨K, 2, none⟩ = some (.slice C m c) ∧ W'.cell? ⟨K + 1, 0, none⟩ = some (.slice B n b) ∧ W'.cell? ⟨K + 1, 1, none⟩ = some (.int .i64 k) ∧ W'.cell? ⟨K + 1, 2, none⟩ = some (.slice D m d) ∧ K + 1 < W'.heap.size ∧ K < W'.heap.size) := Lib.hid (fun W' hW' => by
    have hl : K + 1 < W.heap.size := by rw [hW.out, hK]; simp
    have hl2 : K < W.heap.size := by omega
    refine ⟨(hW'.cell (p := ⟨K, 0, none⟩) hl2).trans ?_, (hW'.cell (p := ⟨K, 1, none⟩) hl2).trans ?_, (hW'.cell (p := ⟨K, 2, none⟩) hl2).trans ?_, (hW'.cell (p := ⟨K + 1, 0, none⟩) hl).trans ?_, (hW'.cell (p := ⟨K + 1, 1, none⟩) hl).trans ?_, (hW'.cell (p := ⟨K + 1, 2, none⟩) hl).trans ?_, Nat.lt_of_lt_of_le hl hW'.size, Nat.lt_of_lt_of_le hl2 hW'.size⟩
    all_goals (rw [hW.out]; first | (rw [hK1]; go_simp; done) | (rw [hK]; go_simp; done)))
  have hbel : Below w.heap.size w W := by rw [hW.out]; (repeat' (first | (with_reducible exact Below.refl _ _) | (with_reducible assumption) | (with_reducible refine below_drewN ?_ _) | (with_reducible refine Below.drew ?_) | (with_reducible refine below_new ?_ (Nat.le_refl _) _) | (with_reducible refine Below.setCell ?_ ?_ _) | (with_reducible refine below_go ?_ (by assumption) (Nat.le_refl _)) | (simp; done) | (simp; omega) | omega))
  rw [← hK1, ← hK]
  have HB0 := Lib.hid hbel
  obtain ⟨k0, k1, k2, j0, j1, j2, l1, l0⟩ := HCW.out W (Below.refl _ _)
  clear hW hbel hK hK1
  go_wp2_with fail
  refine (H1.out _ HB0.out).mono ?_
  rintro e w1 ⟨rfl, hb1⟩
  have HB1 := Lib.hid hb1
  clear k0 k1 k2 j0 j1 j2 l1 l0 hb1
  obtain ⟨k0, k1, k2, j0, j1, j2, l1, l0⟩ := HCW.out w1 HB1.out
  go_wp2_with fail
  refine (H2.out _ (HB0.out.trans (HB1.out.mono HB0.out.size))).mono ?_
  rintro e w2 ⟨rfl, hb2⟩
  have hq := (HB0.out.trans (HB1.out.mono HB0.out.size))
  have hq2 := hq.trans (hb2.mono hq.size)
  go_wp2
  go_ret
  exact ⟨rfl, hq2⟩

end Go.Proofs.YtpgkebfdfhdliaaDoor
