/- Merged: Layer 20: a counted loop. PRINTED by wip/tool/mkkdl.py Layer 20: branches. PRINTED by wip/tool/mkkdl.py -/
import Derived.Test.YtahjijdadifkaaaDoorM19
set_option linter.unusedVariables false
set_option linter.unusedSimpArgs false
set_option maxHeartbeats 4000000
namespace Go.Proofs.YtahjijdadifkaaaDoor
open Go.RowKit
attribute [local go_sem] ite_max ite_min vite_max vite_min ext_cell ext_frozen extS_cell extS_frozen

theorem hdX_some {SS : Int → List Stm → Bool} {ls : Int} {bs : List (List Stm)} {b : List Stm} (h : bs[0]? = some b) : hdX SS ls bs = SS ls b := by
 cases bs with
 | nil => cases h
 | cons x l =>
  cases h
  rfl
theorem okConds_of {vs : List VarS} {s : Stm} (h : ∀ j x, j < s.conds.length → s.conds[j]? = some x → tyE vs x = some 1) : okConds vs s = true := by
 unfold okConds
 rw [List.all_eq_true]
 intro x hx
 obtain ⟨j, hj⟩ := List.getElem?_of_mem hx
 simpa using h j x (List.getElem?_eq_some_iff.1 hj).1 hj
theorem okConds_no {vs : List VarS} {s : Stm} {j : Nat} {x : Ex} (hx : s.conds[j]? = some x) (h : ¬ tyE vs x = some 1) : okConds vs s = false := by
 unfold okConds
 rw [List.all_eq_false]
 exact ⟨x, List.mem_of_getElem? hx, by simpa using h⟩

set_option maxRecDepth 100000 in
theorem kcounted_of (vs : List VarS) (SS : Int → List Stm → Bool) (s : Stm) (m : SM) (w0 : World) (C : Nat) (A : Option Addr) (cap : Nat) (w : World) (ls : Int) (hS : ∀ bl ∈ s.blocks, StmtsOK w0 C A cap vs SS bl) (hw0 : Below w0.heap.size w0 w) (hC : w0.heap.size ≤ C)
  (hck : Ck w C A cap vs ls) (ht : Blanks w) (hcs : RowE w0 m.ca s.conds m.ck) (hbs : RowB w0 m.ba s.blocks m.bk) (hsh : ∀ x ∈ s.conds, ShE x) (hne : s.blocks ≠ []) :
  Calls Tryd.prog 58 #[ckP C, .agg (StmC s m).toArray] w fun e w' => OkRes w C A cap vs ls (okVar vs s && (okConds vs s && hdX SS (wr1 ls) s.blocks)) e w' := by
 have HCS := Lib.hid hcs
 have HBS := Lib.hid hbs
 have HSH := Lib.hid hsh
 have HCK := Lib.hid hck
 have HBT := Lib.hid ht
 have HS := Lib.hid hS
 have HW0 := Lib.hid hw0
 have HC0 := Lib.hid hC
 have HST : Hid (∀ {W : World} {B : Nat}, W.heap[B]? = some (.cells (StmC s m).toArray 63) → StmV W B (StmC s m) (ExC s.dst m.ta m.tk) (ExC s.src m.va m.vk)) := Lib.hid (fun h => stmV_of h)
 have hpos : 0 < s.blocks.length := List.length_pos_iff.2 hne
 obtain ⟨r, hr⟩ : ∃ r, (okVar vs s && (okConds vs s && hdX SS (wr1 ls) s.blocks)) = r := ⟨_, rfl⟩
 have hr' := hr
 unfold okVar at hr'
 obtain ⟨L, hL⟩ : ∃ L, StmC s m = L := ⟨_, rfl⟩
 obtain ⟨nm, hnm⟩ : ∃ o, s.name = o := ⟨_, rfl⟩
 obtain ⟨ln, hln⟩ : ∃ o, s.line = o := ⟨_, rfl⟩
 obtain ⟨n, hn⟩ : ∃ o, s.conds.length = o := ⟨_, rfl⟩
 obtain ⟨nb, hnb⟩ : ∃ o, s.blocks.length = o := ⟨_, rfl⟩
 obtain ⟨D, hD⟩ : ∃ D, ExC s.dst m.ta m.tk = D := ⟨_, rfl⟩
 obtain ⟨E, hE⟩ : ∃ D, ExC s.src m.va m.vk = D := ⟨_, rfl⟩
 obtain ⟨cA, hcA⟩ : ∃ o, m.ca = o := ⟨_, rfl⟩
 obtain ⟨ck, hckk⟩ : ∃ o, m.ck = o := ⟨_, rfl⟩
 obtain ⟨bA, hbA⟩ : ∃ o, m.ba = o := ⟨_, rfl⟩
 obtain ⟨bk, hbk⟩ : ∃ o, m.bk = o := ⟨_, rfl⟩
 have HLX : Hid (L[1]? = some (.string nm) ∧ L[14]? = some (.slice cA n ck) ∧ L[17]? = some (.slice bA nb bk) ∧ L[18]? = some (.int .i64 ln)) := Lib.hid (by rw [← hL, ← hnm, ← hln, ← hn, ← hnb, ← hcA, ← hckk, ← hbA, ← hbk]; exact ⟨rfl, rfl, rfl, rfl⟩)
 rw [hnm] at hr'
 have HR := Lib.hid hr'
 have HN := Lib.hid hn
 have HNB := Lib.hid hnb
 rw [hcA, hckk] at HCS
 rw [hbA, hbk] at HBS
 have hc1 := HCS.out.1
 have hc2 := HCS.out.2.1
 have hc3 := HBS.out.1
 have hc4 := HBS.out.2.1
 rw [hn] at hc1
 rw [hnb] at hc3 hpos
 rw [hE, hD, hL] at HST
 rw [hr, hL]
 clear hC hS hw0 hck ht hcs hbs hsh hne hr hr' hL hnm hln hn hnb hD hE hcA hckk hbA hbk
 go_enter Tryd.func58, Tryd.ntmps58
 go_upto_region 1 with (refine wpList_boxTo rfl 63 _ rfl _ rfl _ rfl L.toArray rfl ?_)
 refine wp_name fun W hW => ?_
 obtain ⟨B, hB⟩ : ∃ B, B = w.heap.size := ⟨_, rfl⟩
 have hh : W.heap[B]? = some (.cells L.toArray 63) := by rw [hW.out, hB]; exact heap_alloc_new _ _
 have hbel : Below w.heap.size w W := by rw [hW.out]; exact belowBy
 have HB := Lib.hid hbel
 have HSV := Lib.hid (HST.out hh)
 rw [← hB]
 have HCKW := Lib.hid (HCK.out.below hbel)
 have HBTW := Lib.hid (HBT.out.on hbel)
 have lC : C < B := by rw [hB]; exact HCK.out.v.lt
 have s1 : W.cell? ⟨B, 1, none⟩ = some (.string nm) := HSV.out.cell 1 _ HLX.out.1
 have s18 : W.cell? ⟨B, 18, none⟩ = some (.int .i64 ln) := HSV.out.cell 18 _ HLX.out.2.2.2
 clear hW hh hbel hB HBT HST
 go_wp2_with fail
 refine (kvar_any vs nm ln C A cap W HCKW.out.v).mono ?_
 rintro e w1 ⟨he, hb1⟩
 have HB1 := Lib.hid (HB.out.trans (hb1.mono HB.out.size))
 have HSV1 := Lib.hid (HSV.out.below hb1)
 have HBT1 := Lib.hid (HBTW.out.on hb1)
 clear hb1 HSV s1 s18 HCKW HBTW HB
 cases hv : varF vs nm with
 | none =>
  rw [hv] at he
  obtain ⟨n9, l9, rfl, h9⟩ := he
  obtain rfl : false = r := by rw [← HR.out, hv]; rfl
  exact post_panic rfl ⟨⟨n9, l9, rfl, h9⟩, But.of_below HB1.out, fun h => by cases h⟩
 | some v =>
  rw [hv] at he
  obtain rfl := he
  have HR1 : Hid ((((v.sect != 1) && (!v.arr && (v.type == 1))) && (okConds vs s && hdX SS (wr1 ls) s.blocks)) = r) := Lib.hid (by rw [← HR.out, hv])
  clear HR hv
  obtain ⟨sc, hsc⟩ : ∃ o, v.sect = o := ⟨_, rfl⟩
  obtain ⟨ar, har⟩ : ∃ o, v.arr = o := ⟨_, rfl⟩
  obtain ⟨ty, hty⟩ : ∃ o, v.type = o := ⟨_, rfl⟩
  obtain ⟨M, hM⟩ : ∃ M, v.cells = M := ⟨_, rfl⟩
  have HMS : Hid ((Tryd.prog.info? 47).map (·.size) = some M.length) := Lib.hid (by rw [← hM]; exact var_size8)
  have HM1 : Hid (M.toArray.all (·.oneCell') = true) := Lib.hid (by rw [← hM]; exact var_one8 v)
  have HM8 : Hid (8 = M.toArray.size) := Lib.hid (by rw [← hM]; rfl)
  have HM2 : Hid (M[2]? = some (.int .i64 sc) ∧ M[3]? = some (.bool ar) ∧ M[1]? = some (.int .i64 ty)) := Lib.hid (by rw [← hM, ← hsc, ← har, ← hty]; exact ⟨rfl, rfl, rfl⟩)
  rw [hsc, har, hty] at HR1
  simp only [Option.map_some]
  rw [hM]
  clear hM hsc har hty
  go_upto_region 2 with (refine wpList_store_new rfl 47 _ _ rfl w1 _ M.toArray rfl rfl rfl HMS.out HM8.out HM1.out ?_)
  refine wp_name fun W2 hW2 => ?_
  obtain ⟨V, hV⟩ : ∃ V, V = w1.heap.size := ⟨_, rfl⟩
  have hh : W2.heap[V]? = some (.cells M.toArray 47) := by rw [hW2.out, hV]; exact heap_alloc_new _ _
  have hb2 : Below w1.heap.size w1 W2 := by rw [hW2.out]; exact belowBy
  rw [← hV]
  have HB2 := Lib.hid (HB1.out.trans (hb2.mono HB1.out.size))
  have HSV2 := Lib.hid (HSV1.out.below hb2)
  have HBT2 := Lib.hid (HBT1.out.on hb2)
  have c2 : W2.cell? ⟨V, 2, none⟩ = some (.int .i64 sc) := heap_cell 2 _ hh (by rw [List.getElem?_toArray]; exact HM2.out.1)
  have c3 : W2.cell? ⟨V, 3, none⟩ = some (.bool ar) := heap_cell 3 _ hh (by rw [List.getElem?_toArray]; exact HM2.out.2.1)
  have c1 : W2.cell? ⟨V, 1, none⟩ = some (.int .i64 ty) := heap_cell 1 _ hh (by rw [List.getElem?_toArray]; exact HM2.out.2.2)
  have d18 : W2.cell? ⟨B, 18, none⟩ = some (.int .i64 ln) := HSV2.out.cell 18 _ HLX.out.2.2.2
  simp only [Act.put]
  clear hW2 hV hh hb2 HB1 HSV1 HBT1
  cases hq : (sc != 1)
  ·obtain rfl : false = r := by rw [← HR1.out, hq]; rfl
   go_wp2_with fail
   refine (need_any false 1 ln _ (by decide)).mono ?_
   rintro e w3 ⟨he, rfl⟩
   obtain ⟨n9, l9, rfl, h9⟩ := he
   exact post_panic rfl ⟨⟨n9, l9, rfl, h9⟩, But.of_below HB2.out, fun h => by cases h⟩
  ·have HR2 : Hid (((!ar && (ty == 1)) && (okConds vs s && hdX SS (wr1 ls) s.blocks)) = r) := Lib.hid (by rw [← HR1.out, hq, Bool.true_and])
   clear HR1
   go_wp2_with fail
   refine (need_any true 1 ln _ (by decide)).mono ?_
   rintro e w3 ⟨rfl, rfl⟩
   clear hq c2
   cases ar
   case true =>
    obtain rfl : false = r := by rw [← HR2.out]; rfl
    go_wp2_with fail
    refine (need_any false 10 ln _ (by decide)).mono ?_
    rintro e w3 ⟨he, rfl⟩
    obtain ⟨n9, l9, rfl, h9⟩ := he
    exact post_panic rfl ⟨⟨n9, l9, rfl, h9⟩, But.of_below HB2.out, fun h => by cases h⟩
   case false =>
    cases hq : (ty == 1)
    ·obtain rfl : false = r := by rw [← HR2.out, hq]; rfl
     go_wp2_with fail
     refine (need_any false 10 ln _ (by decide)).mono ?_
     rintro e w3 ⟨he, rfl⟩
     obtain ⟨n9, l9, rfl, h9⟩ := he
     exact post_panic rfl ⟨⟨n9, l9, rfl, h9⟩, But.of_below HB2.out, fun h => by cases h⟩
    ·have HR3 : Hid ((okConds vs s && hdX SS (wr1 ls) s.blocks) = r) := Lib.hid (by rw [← HR2.out, hq]; simp)
     clear HR2
     go_wp2_with fail
     refine (need_any true 10 ln _ (by decide)).mono ?_
     rintro e w4 ⟨rfl, rfl⟩
     have d14 : w4.cell? ⟨B, 14, none⟩ = some (.slice cA n ck) := HSV2.out.cell 14 _ HLX.out.2.1
     clear hq c3 c1 d18
     go_wp2_with fail
     clear d14
     go_loopw [33] (fun u wr => ∃ (i : Nat), i ≤ n ∧ u = .int .i64 i ∧ Hid (∀ j x, j < i → s.conds[j]? = some x → tyE vs x = some 1) ∧ Below w4.heap.size w4 wr) (fun u _ => n - (intOf u).toNat)
     case atStart => exact ⟨0, by omega, rfl, Lib.hid (fun j x hj => by omega), Below.refl _ _⟩
     case round =>
      obtain ⟨i, hi, rfl, HAL, hbr⟩ := hrel
      have HBr := Lib.hid (HB2.out.trans (hbr.mono HB2.out.size))
      have HCKr := Lib.hid (HCK.out.below HBr.out)
      have HBTr := Lib.hid (HBT2.out.on hbr)
      have HWr := Lib.hid (HW0.out.trans (HBr.out.mono HW0.out.size))
      by_cases hlt : i < n
      ·obtain ⟨b2, o2, y, As, ks, rfl, hbl, hy, hat, hsub, hrng⟩ := RowE.at (HCS.out.below HWr.out) (i := i) (by rw [HN.out]; exact hlt)
       have hi0 : (0 : Int) ≤ (i : Int) ∧ (i : Int) < (n : Int) := by omega
       have HY := Lib.hid hy
       have HEX : Hid (ExprAt wr C y As ks (tyE vs y)) := Lib.hid (kexpr_any (HSH.out y (List.mem_of_getElem? hy)) hat HCKr.out.v HBTr.out)
       obtain ⟨M2, hM2⟩ : ∃ M, ExC y As ks = M := ⟨_, rfl⟩
       have HMS2 : Hid ((Tryd.prog.info? 28).map (·.size) = some M2.length) := Lib.hid (by rw [← hM2]; exact expr_size)
       have HM12 : Hid (M2.toArray.all (·.oneCell') = true) := Lib.hid (by rw [← hM2]; exact exC_one y As ks)
       have HM6 : Hid (6 = M2.toArray.size) := Lib.hid (by rw [← hM2]; rfl)
       have HNU : Hid (∀ W, Below wr.heap.size wr W → Calls Tryd.prog 57 #[ckP C, .agg M2.toArray] W fun e w' => Oks (decide (tyE vs y = some 1)) e ∧ Below W.heap.size W w') := Lib.hid (fun W hW => by rw [← hM2]; exact knumber_of y As ks C _ W (HEX.out.below hW))
       rw [hM2] at hrng
       have HRG := Lib.hid hrng
       have HBRR := Lib.hid hbr
       clear hy hat hsub hrng hM2 HEX hbr
       go_upto_region 7 with (first
        | refine wpList_load_mid rfl 28 _ rfl b2 (o2 + i * 6) rfl M2 _ HRG.out Tryd.underlying28 rfl HMS2.out ?_
        | refine wpList_store_new rfl 28 _ _ rfl wr _ M2.toArray rfl rfl rfl HMS2.out HM6.out HM12.out ?_)
       refine wp_name fun W3 hW3 => ?_
       obtain ⟨G, hG⟩ : ∃ G, G = wr.heap.size := ⟨_, rfl⟩
       rw [← hG]
       have hB3 : Below wr.heap.size wr W3 := by rw [hW3.out]; exact belowBy
       have hh : W3.heap[G]? = some (.cells M2.toArray 28) := by rw [hW3.out, hG]; exact heap_alloc_new _ _
       have HRW : Hid (W3.rangeAt G 0 M2) := Lib.hid (by
        have := rangeAt_of_heap hh
        simpa using this)
       have HB3 := Lib.hid hB3
       simp only [Act.put]
       clear hW3 hB3 hh hG HRG
       cases hty : decide (tyE vs y = some 1)
       ·rw [hty] at HNU
        obtain rfl : false = r := by rw [← HR3.out, okConds_no HY.out (of_decide_eq_false hty)]; rfl
        clear hty
        go_wp2_with (refine wpList_load_mid rfl 28 _ rfl G 0 rfl M2 _ HRW.out Tryd.underlying28 rfl HMS2.out ?_)
        refine (HNU.out _ HB3.out).mono ?_
        rintro e w5 ⟨he, hb5⟩
        obtain ⟨n9, l9, rfl, h9⟩ := he
        exact ⟨rfl, ⟨⟨n9, l9, rfl, h9⟩, But.of_below (HBr.out.trans ((HB3.out.trans (hb5.mono HB3.out.size)).mono HBr.out.size)), fun h => by cases h⟩⟩
       ·rw [hty] at HNU
        have HTY := Lib.hid (of_decide_eq_true hty)
        clear hty
        go_wp2_with (refine wpList_load_mid rfl 28 _ rfl G 0 rfl M2 _ HRW.out Tryd.underlying28 rfl HMS2.out ?_)
        refine (HNU.out _ HB3.out).mono ?_
        rintro e w5 ⟨he, hb5⟩
        obtain rfl := he
        have HB5 := Lib.hid (HBRR.out.trans ((HB3.out.trans (hb5.mono HB3.out.size)).mono HBRR.out.size))
        clear hb5 HRW HB3 HNU
        go_wp2
        go_roundw
        case rel =>
         refine ⟨i + 1, by omega, by go_num, Lib.hid (fun j x hj hx => ?_), HB5.out⟩
         rcases Nat.lt_succ_iff_lt_or_eq.1 hj with h | rfl
         ·exact HAL.out j x h hx
         ·rw [HY.out] at hx
          cases hx
          exact HTY.out
        case measure => simp [intOf]; omega
      ·obtain rfl : i = n := by omega
       obtain ⟨b5, o5, bl, cs5, rfl, hb5, hz5, ⟨A6, k6, rfl, hr6⟩, hc5⟩ := RowOf.at HBS.out (i := 0) (by rw [HNB.out]; exact hpos)
       have HR4 : Hid (SS (wr1 ls) bl = r) := Lib.hid (by rw [← HR3.out, okConds_of (fun j x hj => HAL.out j x (by rw [← HN.out]; exact hj)), Bool.true_and, hdX_some hz5])
       have HLP := Lib.hid (kloop_of vs SS bl w0 C A A6 cap k6 wr ls (HS.out bl (List.mem_of_getElem? hz5)) HWr.out HC0.out HCKr.out hr6)
       rw [HR4.out] at HLP
       have d17 : wr.cell? ⟨B, 17, none⟩ = some (.slice (some ⟨b5, o5, none⟩) nb bk) := (HSV2.out.below hbr).cell 17 _ HLX.out.2.2.1
       have e0 : wr.cell? ⟨b5, o5, none⟩ = some (.slice A6 bl.length k6) := by
        have := hc5 0 (by omega)
        rw [Nat.zero_mul, Nat.add_zero] at this
        exact (HWr.out.cell (p := ⟨b5, o5, none⟩) hb5).trans this
       have hnb0 : (0 : Int) < (nb : Int) := by omega
       obtain ⟨q, hq⟩ : ∃ q, bl.length = q := ⟨_, rfl⟩
       rw [hq] at e0 HLP
       clear hz5 hr6 hc5 HAL hq hbr
       go_wp2_with fail
       refine HLP.out.mono ?_
       rintro e w6 ⟨he, hb6, hk6⟩
       cases r
       ·obtain ⟨n9, l9, rfl, h9⟩ := he
        exact ⟨rfl, ⟨⟨n9, l9, rfl, h9⟩, (But.of_below HBr.out).trans hb6, fun h => by cases h⟩⟩
       ·obtain rfl := he
        have HB6 := Lib.hid ((But.of_below HBr.out).trans hb6)
        have HK6 := Lib.hid (hk6 rfl)
        clear hb6 hk6
        go_wp2
        refine bodyPost_end (v := .tuple #[]) ?_ rfl ⟨rfl, HB6.out, fun _ => HK6.out⟩
        simp [results, Tryd.results58]


theorem bsX_step {SS : Int → List Stm → Bool} {vs : List VarS} {ls : Int} {cs : List Ex} {bs : List (List Stm)} {i : Nat} {b : List Stm} (h : bs[i]? = some b) :
  bsX SS vs ls (cs.drop i) (bs.drop i) = ((match cs[i]? with | none => true | some c => decide (tyE vs c = some 2)) && SS ls b && bsX SS vs ls (cs.drop (i + 1)) (bs.drop (i + 1))) := by
 obtain ⟨hi, hb⟩ := List.getElem?_eq_some_iff.1 h
 rw [List.drop_eq_getElem_cons hi, hb]
 rcases Nat.lt_or_ge i cs.length with hc | hc
 ·rw [List.drop_eq_getElem_cons hc, List.getElem?_eq_getElem hc]
  rfl
 ·rw [List.drop_eq_nil_of_le hc, List.getElem?_eq_none hc, List.drop_eq_nil_of_le (show cs.length ≤ i + 1 by omega)]
  rfl
theorem bsX_end {SS : Int → List Stm → Bool} {vs : List VarS} {ls : Int} {cs : List Ex} {bs : List (List Stm)} {i : Nat} (h : bs.length ≤ i) : bsX SS vs ls (cs.drop i) (bs.drop i) = true := by
 rw [List.drop_eq_nil_of_le h]
 cases cs.drop i <;> rfl

set_option maxRecDepth 100000 in
theorem kbranches_of (vs : List VarS) (SS : Int → List Stm → Bool) (s : Stm) (m : SM) (w0 : World) (C : Nat) (A : Option Addr) (cap : Nat) (w : World) (ls : Int) (hS : ∀ bl ∈ s.blocks, StmtsOK w0 C A cap vs SS bl) (hw0 : Below w0.heap.size w0 w) (hC : w0.heap.size ≤ C)
  (hck : Ck w C A cap vs ls) (ht : Blanks w0) (hcs : RowE w0 m.ca s.conds m.ck) (hbs : RowB w0 m.ba s.blocks m.bk) (hsh : ∀ x ∈ s.conds, ShE x) :
  Calls Tryd.prog 56 #[ckP C, .agg (StmC s m).toArray] w fun e w' => OkRes w C A cap vs ls (bsX SS vs ls s.conds s.blocks) e w' := by
 have HCS := Lib.hid hcs
 have HBS := Lib.hid hbs
 have HSH := Lib.hid hsh
 have HCK := Lib.hid hck
 have HBT := Lib.hid ht
 have HS := Lib.hid hS
 have HW0 := Lib.hid hw0
 have HC0 := Lib.hid hC
 have HST : Hid (∀ {W : World} {B : Nat}, W.heap[B]? = some (.cells (StmC s m).toArray 63) → StmV W B (StmC s m) (ExC s.dst m.ta m.tk) (ExC s.src m.va m.vk)) := Lib.hid (fun h => stmV_of h)
 obtain ⟨r, hr⟩ : ∃ r, bsX SS vs ls s.conds s.blocks = r := ⟨_, rfl⟩
 have HR := Lib.hid hr
 obtain ⟨L, hL⟩ : ∃ L, StmC s m = L := ⟨_, rfl⟩
 obtain ⟨n, hn⟩ : ∃ o, s.conds.length = o := ⟨_, rfl⟩
 obtain ⟨nb, hnb⟩ : ∃ o, s.blocks.length = o := ⟨_, rfl⟩
 obtain ⟨D, hD⟩ : ∃ D, ExC s.dst m.ta m.tk = D := ⟨_, rfl⟩
 obtain ⟨E, hE⟩ : ∃ D, ExC s.src m.va m.vk = D := ⟨_, rfl⟩
 obtain ⟨cA, hcA⟩ : ∃ o, m.ca = o := ⟨_, rfl⟩
 obtain ⟨ck, hckk⟩ : ∃ o, m.ck = o := ⟨_, rfl⟩
 obtain ⟨bA, hbA⟩ : ∃ o, m.ba = o := ⟨_, rfl⟩
 obtain ⟨bk, hbk⟩ : ∃ o, m.bk = o := ⟨_, rfl⟩
 have HLX : Hid (L[14]? = some (.slice cA n ck) ∧ L[17]? = some (.slice bA nb bk)) := Lib.hid (by rw [← hL, ← hn, ← hnb, ← hcA, ← hckk, ← hbA, ← hbk]; exact ⟨rfl, rfl⟩)
 have HN := Lib.hid hn
 have HNB := Lib.hid hnb
 rw [hcA, hckk] at HCS
 rw [hbA, hbk] at HBS
 have hc1 := HCS.out.1
 have hc2 := HCS.out.2.1
 have hc3 := HBS.out.1
 have hc4 := HBS.out.2.1
 rw [hn] at hc1
 rw [hnb] at hc3
 rw [hE, hD, hL] at HST
 rw [hr, hL]
 clear hC hS hw0 hck ht hcs hbs hsh hr hL hn hnb hD hE hcA hckk hbA hbk
 go_enter Tryd.func56, Tryd.ntmps56
 go_upto_region 1 with (refine wpList_boxTo rfl 63 _ rfl _ rfl _ rfl L.toArray rfl ?_)
 refine wp_name fun W hW => ?_
 obtain ⟨B, hB⟩ : ∃ B, B = w.heap.size := ⟨_, rfl⟩
 have hh : W.heap[B]? = some (.cells L.toArray 63) := by rw [hW.out, hB]; exact heap_alloc_new _ _
 have hbel : Below w.heap.size w W := by rw [hW.out]; exact belowBy
 have HB := Lib.hid hbel
 have HSV := Lib.hid (HST.out hh)
 rw [← hB]
 have HCKW := Lib.hid (HCK.out.below hbel)
 have HNE : Hid (B ≠ C) := Lib.hid (by have := HCK.out.v.lt; omega)
 have d17 : W.cell? ⟨B, 17, none⟩ = some (.slice bA nb bk) := HSV.out.cell 17 _ HLX.out.2
 clear hW hh hbel hB HST HCK
 go_wp2_with fail
 clear d17
 obtain ⟨W0, hW0⟩ : ∃ W0, W0 = W := ⟨_, rfl⟩
 have HWW := Lib.hid hW0
 clear hW0
 go_loopw [9] (fun u wr => ∃ (i : Nat), i ≤ nb ∧ u = .int .i64 i ∧ Hid (bsX SS vs ls (s.conds.drop i) (s.blocks.drop i) = r) ∧ Hid (But C W wr) ∧ Hid (Ck wr C A cap vs ls)) (fun u _ => nb - (intOf u).toNat)
 case atStart => exact ⟨0, by omega, rfl, Lib.hid (by rw [List.drop_zero, List.drop_zero]; exact HR.out), Lib.hid (But.refl _ _), HCKW⟩
 case round =>
  obtain ⟨i, hi, rfl, HRI, HBI, HCKr⟩ := hrel
  have HBr : Hid (But C w wr) := Lib.hid ((But.of_below HB.out).trans HBI.out)
  have HWr : Hid (Below w0.heap.size w0 wr) := Lib.hid (HW0.out.trans (HBr.out.below _ HC0.out HW0.out.size))
  have HBTr := Lib.hid (HBT.out.on HWr.out)
  have HSVr : Hid (StmV wr B L D E) := Lib.hid (HSV.out.but HBI.out HNE.out)
  by_cases hlt : i < nb
  ·obtain ⟨b5, o5, bl, cs5, rfl, hb5, hz5, ⟨A6, k6, rfl, hr6⟩, hc5⟩ := RowOf.at HBS.out (i := i) (by rw [HNB.out]; exact hlt)
   have e0 : wr.cell? ⟨b5, o5 + i, none⟩ = some (.slice A6 bl.length k6) := by
    have := hc5 0 (by omega)
    rw [Nat.mul_one, Nat.add_zero] at this
    exact (HWr.out.cell (p := ⟨b5, o5 + i, none⟩) hb5).trans this
   have d14 : wr.cell? ⟨B, 14, none⟩ = some (.slice cA n ck) := HSVr.out.cell 14 _ HLX.out.1
   have hib : (0 : Int) ≤ (i : Int) ∧ (i : Int) < (nb : Int) := by omega
   have HST2 : Hid (bsX SS vs ls (s.conds.drop i) (s.blocks.drop i) = _) := Lib.hid (bsX_step (SS := SS) (vs := vs) (ls := ls) (cs := s.conds) hz5)
   have HSB : Hid (∀ W, Below w0.heap.size w0 W → Ck W C A cap vs ls → Calls Tryd.prog 19 #[ckP C, .slice A6 bl.length k6] W fun e W' => OkRes W C A cap vs ls (SS ls bl) e W') := Lib.hid (fun W h1 h2 => HS.out bl (List.mem_of_getElem? hz5) W ls A6 k6 h1 h2 hr6)
   have HRJ : Hid (((match s.conds[i]? with | none => true | some c => decide (tyE vs c = some 2)) && SS ls bl && bsX SS vs ls (s.conds.drop (i + 1)) (s.blocks.drop (i + 1))) = r) := Lib.hid (by rw [← HRI.out, HST2.out])
   obtain ⟨q, hq⟩ : ∃ q, bl.length = q := ⟨_, rfl⟩
   rw [hq] at e0 HSB
   clear hz5 hr6 hc5 HST2 HRI hq
   by_cases hcn : i < n
   ·obtain ⟨b2, o2, y, As, ks, rfl, hbl, hy, hat, hsub, hrng⟩ := RowE.at (HCS.out.below HWr.out) (i := i) (by rw [HN.out]; exact hcn)
    have hic : (i : Int) < (n : Int) := by omega
    have HEX : Hid (ExprAt wr C y As ks (tyE vs y)) := Lib.hid (kexpr_any (HSH.out y (List.mem_of_getElem? hy)) hat HCKr.out.v HBTr.out)
    obtain ⟨M2, hM2⟩ : ∃ M, ExC y As ks = M := ⟨_, rfl⟩
    have HMS2 : Hid ((Tryd.prog.info? 28).map (·.size) = some M2.length) := Lib.hid (by rw [← hM2]; exact expr_size)
    have HNU : Hid (Calls Tryd.prog 59 #[ckP C, .agg M2.toArray] wr fun e w' => Oks (decide (tyE vs y = some 2)) e ∧ Below wr.heap.size wr w') := Lib.hid (by rw [← hM2]; exact ktruth_of y As ks C _ wr HEX.out)
    have HRK : Hid ((decide (tyE vs y = some 2) && SS ls bl && bsX SS vs ls (s.conds.drop (i + 1)) (s.blocks.drop (i + 1))) = r) := Lib.hid (by rw [← HRJ.out, hy])
    rw [hM2] at hrng
    have HRG := Lib.hid hrng
    clear hy hat hsub hrng hM2 HEX HRJ
    cases hty : decide (tyE vs y = some 2)
    ·rw [hty] at HNU
     obtain rfl : false = r := by rw [← HRK.out, hty]; rfl
     clear hty
     go_wp2_with (refine wpList_load_mid rfl 28 _ rfl b2 (o2 + i * 6) rfl M2 _ HRG.out Tryd.underlying28 rfl HMS2.out ?_)
     refine HNU.out.mono ?_
     rintro e w5 ⟨he, hb5⟩
     obtain ⟨n9, l9, rfl, h9⟩ := he
     exact ⟨rfl, ⟨⟨n9, l9, rfl, h9⟩, HBr.out.trans (But.of_below hb5), fun h => by cases h⟩⟩
    ·rw [hty] at HNU
     have HRM : Hid ((SS ls bl && bsX SS vs ls (s.conds.drop (i + 1)) (s.blocks.drop (i + 1))) = r) := Lib.hid (by rw [← HRK.out, hty, Bool.true_and])
     clear hty HRK
     go_wp2_with (refine wpList_load_mid rfl 28 _ rfl b2 (o2 + i * 6) rfl M2 _ HRG.out Tryd.underlying28 rfl HMS2.out ?_)
     refine HNU.out.mono ?_
     rintro e w5 ⟨he, hb5⟩
     obtain rfl := he
     have HW5 := Lib.hid (HWr.out.trans (hb5.mono HWr.out.size))
     have HCK5 := Lib.hid (HCKr.out.below hb5)
     have HI5 : Hid (But C W w5) := Lib.hid (HBI.out.trans (But.of_below hb5))
     clear hb5 e0 d14
     go_wp2_with fail
     refine (HSB.out _ HW5.out HCK5.out).mono ?_
     rintro e w6 ⟨he, hb6, hk6⟩
     have HI6 : Hid (But C W w6) := Lib.hid (HI5.out.trans hb6)
     have HB6 : Hid (But C w w6) := Lib.hid ((But.of_below HB.out).trans HI6.out)
     cases hss : SS ls bl
     ·rw [hss] at he
      obtain ⟨n9, l9, rfl, h9⟩ := he
      obtain rfl : false = r := by rw [← HRM.out, hss]; rfl
      exact ⟨rfl, ⟨⟨n9, l9, rfl, h9⟩, HB6.out, fun h => by cases h⟩⟩
     ·rw [hss] at he
      obtain rfl := he
      have HK6 := Lib.hid (hk6 hss)
      have HRN : Hid (bsX SS vs ls (s.conds.drop (i + 1)) (s.blocks.drop (i + 1)) = r) := Lib.hid (by rw [← HRM.out, hss, Bool.true_and])
      clear hss hb6 hk6
      go_wp2
      go_roundw
      case rel => exact ⟨i + 1, by omega, by go_num, HRN, HI6, HK6⟩
      case measure => simp [intOf]; omega
   ·have hic : ¬ (i : Int) < (n : Int) := by omega
    have HRM : Hid ((SS ls bl && bsX SS vs ls (s.conds.drop (i + 1)) (s.blocks.drop (i + 1))) = r) := Lib.hid (by
     rw [← HRJ.out, List.getElem?_eq_none (by rw [HN.out]; omega), Bool.true_and])
    clear HRJ
    go_wp2_with fail
    refine (HSB.out _ HWr.out HCKr.out).mono ?_
    rintro e w6 ⟨he, hb6, hk6⟩
    have HI6 : Hid (But C W w6) := Lib.hid (HBI.out.trans hb6)
    have HB6 : Hid (But C w w6) := Lib.hid ((But.of_below HB.out).trans HI6.out)
    cases hss : SS ls bl
    ·rw [hss] at he
     obtain ⟨n9, l9, rfl, h9⟩ := he
     obtain rfl : false = r := by rw [← HRM.out, hss]; rfl
     exact ⟨rfl, ⟨⟨n9, l9, rfl, h9⟩, HB6.out, fun h => by cases h⟩⟩
    ·rw [hss] at he
     obtain rfl := he
     have HK6 := Lib.hid (hk6 hss)
     have HRN : Hid (bsX SS vs ls (s.conds.drop (i + 1)) (s.blocks.drop (i + 1)) = r) := Lib.hid (by rw [← HRM.out, hss, Bool.true_and])
     clear hss hb6 hk6
     go_wp2
     go_roundw
     case rel => exact ⟨i + 1, by omega, by go_num, HRN, HI6, HK6⟩
     case measure => simp [intOf]; omega
  ·obtain rfl : i = nb := by omega
   obtain rfl : true = r := by rw [← HRI.out, bsX_end (by rw [HNB.out]; exact Nat.le_refl _)]
   go_wp2
   refine bodyPost_end (v := .tuple #[]) ?_ rfl ⟨rfl, HBr.out, fun _ => HCKr.out⟩
   simp [results, Tryd.results56]

end Go.Proofs.YtahjijdadifkaaaDoor
