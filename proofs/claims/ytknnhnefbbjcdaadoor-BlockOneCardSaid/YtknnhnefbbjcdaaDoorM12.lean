/- Merged: Layer 20, the reference: a statement's check, at kinds 1. PRINTED by wip/tool/mkstm20.py Layer 20, the reference: a statement's check, at kinds 2. PRINTED by wip/tool/mkstm20.py Layer 20, the reference: a statement's check, at kinds 3. PRINTED by wip/tool/mkstm20.py Layer 20, the reference: a statement's check, at kinds 4. PRINTED by wip/tool/mkstm20.py Layer 20, the reference: a statement's check, at kinds 5, 6. PRINTED by wip/tool/mkstm20.py Layer 20, the reference: a statement's check, at kinds 7, 8, 9. PRINTED by wip/tool/mkstm20.py -/
import Derived.Test.YtknnhnefbbjcdaaDoorM42
import Derived.RegionTactic
namespace Go.Proofs.YtknnhnefbbjcdaaDoor
open Go.RowKit
set_option linter.unusedVariables false
set_option linter.unusedSimpArgs false
attribute [local go_sem] ite_max ite_min vite_max vite_min ext_cell ext_frozen extS_cell extS_frozen

set_option maxRecDepth 100000 in
set_option maxHeartbeats 16000000 in
theorem stmt20_k1 (s : Stm) (m : SM) (w : World) (vA : Option Addr) (vcap nv : Nat) (lp : Bool) (hin : StIn s m w vA vcap nv) (hop : s.op = 1) : Calls Tryd.prog 54 #[.slice vA nv vcap, .agg (StmC s m).toArray, .bool lp] w fun e w' => ErrR e ∧ Below w.heap.size w w' := by
 have HFIND := Lib.hid hin.find
 have HTY := Lib.hid hin.ty
 have HWA := Lib.hid hin.wants
 have HBL := Lib.hid hin.blocks
 have HCALL := Lib.hid hin.call
 have HSV := Lib.hid hin.sv
 have HFIT := Lib.hid hin.fit
 have HOP := Lib.hid hop
 obtain ⟨nc, hnc⟩ : ∃ n, s.conds.length = n := ⟨_, rfl⟩
 obtain ⟨nb, hnb⟩ : ∃ n, s.blocks.length = n := ⟨_, rfl⟩
 have HNC := Lib.hid hnc
 have HNB := Lib.hid hnb
 clear hin hop hnc hnb
 go_enter Tryd.func54, Tryd.ntmps54
 go_upto_region 1 with (refine wpList_boxTo rfl 124 _ rfl _ rfl _ rfl (StmC s m).toArray rfl ?_)
 refine wp_name fun W hW => ?_
 obtain ⟨B, hB⟩ : ∃ B, B = w.heap.size := ⟨_, rfl⟩
 have hB1 : B + 1 = w.heap.size + 1 := by omega
 have hh : W.heap[B]? = some (.cells (StmC s m).toArray 124) := by rw [hW.out, hB]; exact (heap_alloc_old _ _ (by simp)).trans (heap_alloc_new _ _)
 have hR : ResV W (B + 1) := by
  refine ⟨by rw [hW.out, hB]; simp, ?_, ?_, ?_, ?_⟩
  all_goals (rw [hW.out, hB1]; go_simp)
 have hbel : Below w.heap.size w W := by rw [hW.out]; exact belowBy
 have HV := Lib.hid (HSV.out W B hbel hh)
 have HR := Lib.hid hR
 have HB := Lib.hid hbel
 rw [show w.heap.size + 1 = B + 1 by omega, ← hB]
 have hwB : w.heap.size ≤ B := by omega
 clear hW hR hbel hB hB1 hh
 have c0 : W.cell? ⟨B, 0, none⟩ = some (.int .i64 1) := by have := HV.out.at0 0 _ rfl; rwa [HOP.out] at this
 have c1 := HV.out.at0 1 _ rfl
 have c4 := HV.out.at0 4 _ rfl
 have c7 := HV.out.at0 7 _ rfl
 have c14 := HV.out.at0 14 _ rfl
 have c17 := HV.out.at0 17 _ rfl
 have c18 := HV.out.at0 18 _ rfl
 rw [HNC.out] at c14
 rw [HNB.out] at c17
 have r0 := HR.out.r0
 have r1 := HR.out.r1
 have q0 := HR.out.q0
 have q1 := HR.out.q1
 have lB : B < W.heap.size := HV.out.lt
 have lB1 : B + 1 < W.heap.size := HR.out.lt
 have hz := HB.out.size
 go_wp2_with fail
 refine (HFIND.out s.dst.name _ HB.out).mono ?_
 rintro e w1 ⟨⟨v, ok, rfl⟩, hb⟩
 have HV1 := Lib.hid (HV.out.below hb)
 have HR1 := Lib.hid (HR.out.below hb)
 have HB1 := Lib.hid (HB.out.trans (hb.mono HB.out.size))
 clear c0 c1 c4 c7 c14 c17 c18 r0 r1 q0 q1 lB lB1 hz
 clear hb
 clear HV HR HB
 have c0 : w1.cell? ⟨B, 0, none⟩ = some (.int .i64 1) := by have := HV1.out.at0 0 _ rfl; rwa [HOP.out] at this
 have c1 := HV1.out.at0 1 _ rfl
 have c4 := HV1.out.at0 4 _ rfl
 have c7 := HV1.out.at0 7 _ rfl
 have c14 := HV1.out.at0 14 _ rfl
 have c17 := HV1.out.at0 17 _ rfl
 have c18 := HV1.out.at0 18 _ rfl
 rw [HNC.out] at c14
 rw [HNB.out] at c17
 have r0 := HR1.out.r0
 have r1 := HR1.out.r1
 have q0 := HR1.out.q0
 have q1 := HR1.out.q1
 have lB : B < w1.heap.size := HV1.out.lt
 have lB1 : B + 1 < w1.heap.size := HR1.out.lt
 have hz := HB1.out.size
 go_upto_region 4 with (refine wpList_store_new rfl 45 _ _ rfl w1 _ v.cells.toArray rfl rfl rfl var_size8 rfl (var_one8 v) ?_)
 refine wp_name fun W2 hWn => ?_
 obtain ⟨V, hV⟩ : ∃ V, V = w1.heap.size := ⟨_, rfl⟩
 have hh : W2.heap[V]? = some (.cells v.cells.toArray 45) := by rw [hWn.out, hV]; exact heap_alloc_new _ _
 have hbn : Below w1.heap.size w1 W2 := by rw [hWn.out]; exact belowBy
 rw [← hV]
 obtain ⟨sec, hsec⟩ : ∃ t, v.sect = t := ⟨_, rfl⟩
 have v2 : W2.cell? ⟨V, 2, none⟩ = some (.int .i64 sec) := by rw [← hsec]; exact heap_cell 2 _ hh rfl
 have lV : V < W2.heap.size := (Array.getElem?_eq_some_iff.1 hh).1
 have HV2 := Lib.hid (HV1.out.below hbn)
 have HR2 := Lib.hid (HR1.out.below hbn)
 have HB2 := Lib.hid (HB1.out.trans (hbn.mono HB1.out.size))
 clear hWn hh hV hbn hsec
 clear HV1 HR1 HB1
 clear c0 c1 c4 c7 c14 c17 c18 r0 r1 q0 q1 lB lB1 hz
 have c0 : W2.cell? ⟨B, 0, none⟩ = some (.int .i64 1) := by have := HV2.out.at0 0 _ rfl; rwa [HOP.out] at this
 have c1 := HV2.out.at0 1 _ rfl
 have c4 := HV2.out.at0 4 _ rfl
 have c7 := HV2.out.at0 7 _ rfl
 have c14 := HV2.out.at0 14 _ rfl
 have c17 := HV2.out.at0 17 _ rfl
 have c18 := HV2.out.at0 18 _ rfl
 rw [HNC.out] at c14
 rw [HNB.out] at c17
 have r0 := HR2.out.r0
 have r1 := HR2.out.r1
 have q0 := HR2.out.q0
 have q1 := HR2.out.q1
 have lB : B < W2.heap.size := HV2.out.lt
 have lB1 : B + 1 < W2.heap.size := HR2.out.lt
 have hz := HB2.out.size
 cases ok
 ·go_wp2
  refine bodyPost_ret (v := .agg #[.int .i64 9, .int .i64 s.dst.line]) (by simp [results, Tryd.results54, go_sem, r0, r1, q0, q1, lB1]) rfl ⟨⟨_, _, rfl⟩, by have hq := HB2.out; exact belowBy⟩
 ·by_cases hs : sec = 1
  ·subst hs
   go_wp2
   refine bodyPost_ret (v := .agg #[.int .i64 1, .int .i64 s.dst.line]) (by simp [results, Tryd.results54, go_sem, r0, r1, q0, q1, lB1]) rfl ⟨⟨_, _, rfl⟩, by have hq := HB2.out; exact belowBy⟩
  ·have hs1 : (sec == 1) = false := by simp [hs]
   go_wp2_with (refine wpList_load_mid rfl 120 _ rfl B (2) rfl (ExC s.dst m.ta m.tk) _ HV2.out.rangeDst Tryd.underlying120 rfl expr_size ?_)
   refine (HTY.out s.dst (HFIT.out.dst1 HOP.out).2 _ HB2.out _ _ HV2.out.dst.row).mono ?_
   rintro e w3 ⟨⟨t, a, b, rfl⟩, hb⟩
   have HV3 := Lib.hid (HV2.out.below hb)
   have HR3 := Lib.hid (HR2.out.below hb)
   have HB3 := Lib.hid (HB2.out.trans (hb.mono HB2.out.size))
   clear c0 c1 c4 c7 c14 c17 c18 r0 r1 q0 q1 lB lB1 hz
   clear hb lV
   clear HV2 HR2 HB2
   have c0 : w3.cell? ⟨B, 0, none⟩ = some (.int .i64 1) := by have := HV3.out.at0 0 _ rfl; rwa [HOP.out] at this
   have c1 := HV3.out.at0 1 _ rfl
   have c4 := HV3.out.at0 4 _ rfl
   have c7 := HV3.out.at0 7 _ rfl
   have c14 := HV3.out.at0 14 _ rfl
   have c17 := HV3.out.at0 17 _ rfl
   have c18 := HV3.out.at0 18 _ rfl
   rw [HNC.out] at c14
   rw [HNB.out] at c17
   have r0 := HR3.out.r0
   have r1 := HR3.out.r1
   have q0 := HR3.out.q0
   have q1 := HR3.out.q1
   have lB : B < w3.heap.size := HV3.out.lt
   have lB1 : B + 1 < w3.heap.size := HR3.out.lt
   have hz := HB3.out.size
   go_upto_region 9 with (fail)
   refine wp_name fun W4 hWn => ?_
   obtain ⟨E4, hE⟩ : ∃ E, E = w3.heap.size := ⟨_, rfl⟩
   have e0 : W4.cell? ⟨E4, 0, none⟩ = some (.int .i64 a) := by rw [hWn.out, hE]; go_simp
   have e1 : W4.cell? ⟨E4, 1, none⟩ = some (.int .i64 b) := by rw [hWn.out, hE]; go_simp
   have f0 : W4.frozen? ⟨E4, 0, none⟩ = false := by rw [hWn.out, hE]; go_simp
   have f1 : W4.frozen? ⟨E4, 1, none⟩ = false := by rw [hWn.out, hE]; go_simp
   have lE : E4 < W4.heap.size := by rw [hWn.out, hE]; simp
   have hbn : Below w3.heap.size w3 W4 := by rw [hWn.out]; exact belowBy
   have hEB : B + 1 < E4 := by have := HR3.out.lt; omega
   have hEw : w.heap.size ≤ E4 := by omega
   rw [← hE]
   have HV4 := Lib.hid (HV3.out.below hbn)
   have HR4 := Lib.hid (HR3.out.below hbn)
   have HB4 := Lib.hid (HB3.out.trans (hbn.mono HB3.out.size))
   clear c0 c1 c4 c7 c14 c17 c18 r0 r1 q0 q1 lB lB1 hz
   clear hWn hE hbn
   clear HV3 HR3 HB3
   have c0 : W4.cell? ⟨B, 0, none⟩ = some (.int .i64 1) := by have := HV4.out.at0 0 _ rfl; rwa [HOP.out] at this
   have c1 := HV4.out.at0 1 _ rfl
   have c4 := HV4.out.at0 4 _ rfl
   have c7 := HV4.out.at0 7 _ rfl
   have c14 := HV4.out.at0 14 _ rfl
   have c17 := HV4.out.at0 17 _ rfl
   have c18 := HV4.out.at0 18 _ rfl
   rw [HNC.out] at c14
   rw [HNB.out] at c17
   have r0 := HR4.out.r0
   have r1 := HR4.out.r1
   have q0 := HR4.out.q0
   have q1 := HR4.out.q1
   have lB : B < W4.heap.size := HV4.out.lt
   have lB1 : B + 1 < W4.heap.size := HR4.out.lt
   have hz := HB4.out.size
   by_cases ha : a = 0
   ·subst ha
    go_wp2_with (refine wpList_load_mid rfl 120 _ rfl B (8) rfl (ExC s.src m.va m.vk) _ HV4.out.rangeSrc Tryd.underlying120 rfl expr_size ?_)
    refine (HTY.out s.src (HFIT.out.src1 (Or.inl HOP.out)) _ HB4.out _ _ HV4.out.src.row).mono ?_
    rintro e w5 ⟨⟨t2, a2, b2, rfl⟩, hb⟩
    replace e0 := (hb.cell (p := ⟨E4, 0, none⟩) lE).trans e0
    replace e1 := (hb.cell (p := ⟨E4, 1, none⟩) lE).trans e1
    replace f0 := (hb.frozen (p := ⟨E4, 0, none⟩) lE).trans f0
    replace f1 := (hb.frozen (p := ⟨E4, 1, none⟩) lE).trans f1
    replace lE : E4 < w5.heap.size := Nat.lt_of_lt_of_le lE hb.size
    have HV5 := Lib.hid (HV4.out.below hb)
    have HR5 := Lib.hid (HR4.out.below hb)
    have HB5 := Lib.hid (HB4.out.trans (hb.mono HB4.out.size))
    clear c0 c1 c4 c7 c14 c17 c18 r0 r1 q0 q1 lB lB1 hz
    clear hb
    clear HV4 HR4 HB4
    have c0 : w5.cell? ⟨B, 0, none⟩ = some (.int .i64 1) := by have := HV5.out.at0 0 _ rfl; rwa [HOP.out] at this
    have c1 := HV5.out.at0 1 _ rfl
    have c4 := HV5.out.at0 4 _ rfl
    have c7 := HV5.out.at0 7 _ rfl
    have c14 := HV5.out.at0 14 _ rfl
    have c17 := HV5.out.at0 17 _ rfl
    have c18 := HV5.out.at0 18 _ rfl
    rw [HNC.out] at c14
    rw [HNB.out] at c17
    have r0 := HR5.out.r0
    have r1 := HR5.out.r1
    have q0 := HR5.out.q0
    have q1 := HR5.out.q1
    have lB : B < w5.heap.size := HV5.out.lt
    have lB1 : B + 1 < w5.heap.size := HR5.out.lt
    have hz := HB5.out.size
    by_cases ha2 : a2 = 0
    ·subst ha2
     cases ht : (t2 != t)
     ·go_wp2
      refine bodyPost_ret (v := .agg #[.int .i64 0, .int .i64 0]) (by simp [results, Tryd.results54, go_sem, r0, r1, q0, q1, lB1, e0, e1]) rfl ⟨⟨_, _, rfl⟩, by have hq := HB5.out; exact belowBy⟩
     ·go_wp2
      refine bodyPost_ret (v := .agg #[.int .i64 10, .int .i64 s.line]) (by simp [results, Tryd.results54, go_sem, r0, r1, q0, q1, lB1, e0, e1]) rfl ⟨⟨_, _, rfl⟩, by have hq := HB5.out; exact belowBy⟩
    ·have hab : (a2 != 0) = true := by simp [ha2]
     go_wp2
     refine bodyPost_ret (v := .agg #[.int .i64 a2, .int .i64 b2]) (by simp [results, Tryd.results54, go_sem, r0, r1, q0, q1, lB1, e0, e1]) rfl ⟨⟨_, _, rfl⟩, by have hq := HB5.out; exact belowBy⟩
   ·have hab : (a != 0) = true := by simp [ha]
    go_wp2
    refine bodyPost_ret (v := .agg #[.int .i64 a, .int .i64 b]) (by simp [results, Tryd.results54, go_sem, r0, r1, q0, q1, lB1]) rfl ⟨⟨_, _, rfl⟩, by have hq := HB4.out; exact belowBy⟩

end Go.Proofs.YtknnhnefbbjcdaaDoor

namespace Go.Proofs.YtknnhnefbbjcdaaDoor
open Go.RowKit
set_option linter.unusedVariables false
set_option linter.unusedSimpArgs false
attribute [local go_sem] ite_max ite_min vite_max vite_min ext_cell ext_frozen extS_cell extS_frozen

set_option maxRecDepth 100000 in
set_option maxHeartbeats 16000000 in
theorem stmt20_k2 (s : Stm) (m : SM) (w : World) (vA : Option Addr) (vcap nv : Nat) (lp : Bool) (hin : StIn s m w vA vcap nv) (hop : s.op = 2) : Calls Tryd.prog 54 #[.slice vA nv vcap, .agg (StmC s m).toArray, .bool lp] w fun e w' => ErrR e ∧ Below w.heap.size w w' := by
 have HFIND := Lib.hid hin.find
 have HTY := Lib.hid hin.ty
 have HWA := Lib.hid hin.wants
 have HBL := Lib.hid hin.blocks
 have HCALL := Lib.hid hin.call
 have HSV := Lib.hid hin.sv
 have HFIT := Lib.hid hin.fit
 have HOP := Lib.hid hop
 obtain ⟨nc, hnc⟩ : ∃ n, s.conds.length = n := ⟨_, rfl⟩
 obtain ⟨nb, hnb⟩ : ∃ n, s.blocks.length = n := ⟨_, rfl⟩
 have HNC := Lib.hid hnc
 have HNB := Lib.hid hnb
 clear hin hop hnc hnb
 go_enter Tryd.func54, Tryd.ntmps54
 go_upto_region 1 with (refine wpList_boxTo rfl 124 _ rfl _ rfl _ rfl (StmC s m).toArray rfl ?_)
 refine wp_name fun W hW => ?_
 obtain ⟨B, hB⟩ : ∃ B, B = w.heap.size := ⟨_, rfl⟩
 have hB1 : B + 1 = w.heap.size + 1 := by omega
 have hh : W.heap[B]? = some (.cells (StmC s m).toArray 124) := by rw [hW.out, hB]; exact (heap_alloc_old _ _ (by simp)).trans (heap_alloc_new _ _)
 have hR : ResV W (B + 1) := by
  refine ⟨by rw [hW.out, hB]; simp, ?_, ?_, ?_, ?_⟩
  all_goals (rw [hW.out, hB1]; go_simp)
 have hbel : Below w.heap.size w W := by rw [hW.out]; exact belowBy
 have HV := Lib.hid (HSV.out W B hbel hh)
 have HR := Lib.hid hR
 have HB := Lib.hid hbel
 rw [show w.heap.size + 1 = B + 1 by omega, ← hB]
 have hwB : w.heap.size ≤ B := by omega
 clear hW hR hbel hB hB1 hh
 obtain ⟨lnb, hnb0⟩ : nb ≤ m.bk ∧ m.bk ≤ 9223372036854775807 := ⟨by rw [← HNB.out]; exact HV.out.blocks.1, HV.out.blocks.2.1⟩
 obtain ⟨lnc, hnc0⟩ : nc ≤ m.ck ∧ m.ck ≤ 9223372036854775807 := ⟨by rw [← HNC.out]; exact HV.out.conds.1, HV.out.conds.2.1⟩
 have c0 : W.cell? ⟨B, 0, none⟩ = some (.int .i64 2) := by have := HV.out.at0 0 _ rfl; rwa [HOP.out] at this
 have c1 := HV.out.at0 1 _ rfl
 have c4 := HV.out.at0 4 _ rfl
 have c7 := HV.out.at0 7 _ rfl
 have c14 := HV.out.at0 14 _ rfl
 have c17 := HV.out.at0 17 _ rfl
 have c18 := HV.out.at0 18 _ rfl
 rw [HNC.out] at c14
 rw [HNB.out] at c17
 have r0 := HR.out.r0
 have r1 := HR.out.r1
 have q0 := HR.out.q0
 have q1 := HR.out.q1
 have lB : B < W.heap.size := HV.out.lt
 have lB1 : B + 1 < W.heap.size := HR.out.lt
 have hz := HB.out.size
 go_upto_region 18 with (fail)
 clear c0 c1 c4 c7 c14 c17 c18 r0 r1 q0 q1 lB lB1 hz
 go_loopw [12] (fun vi wr => ∃ (ix : Nat), ix ≤ nb ∧ vi = .int .i64 ix ∧ Below W.heap.size W wr) (fun vi _ => nb - (intOf vi).toNat)
 case atStart => exact ⟨0, by omega, rfl, Below.refl _ _⟩
 case round =>
  obtain ⟨ix, hi, rfl, hbr⟩ := hrel
  have HVr := Lib.hid (HV.out.below hbr)
  have HRr := Lib.hid (HR.out.below hbr)
  have HBr := Lib.hid (HB.out.trans (hbr.mono HB.out.size))
  have c0 : wr.cell? ⟨B, 0, none⟩ = some (.int .i64 2) := by have := HVr.out.at0 0 _ rfl; rwa [HOP.out] at this
  have c1 := HVr.out.at0 1 _ rfl
  have c4 := HVr.out.at0 4 _ rfl
  have c7 := HVr.out.at0 7 _ rfl
  have c14 := HVr.out.at0 14 _ rfl
  have c17 := HVr.out.at0 17 _ rfl
  have c18 := HVr.out.at0 18 _ rfl
  rw [HNC.out] at c14
  rw [HNB.out] at c17
  have r0 := HRr.out.r0
  have r1 := HRr.out.r1
  have q0 := HRr.out.q0
  have q1 := HRr.out.q1
  have lB : B < wr.heap.size := HVr.out.lt
  have lB1 : B + 1 < wr.heap.size := HRr.out.lt
  have hz := HBr.out.size
  have HBR := Lib.hid hbr
  clear hbr
  by_cases hlt : ix < nb
  ·have hi0 : (0 : Int) ≤ (ix : Int) ∧ (ix : Int) < (nb : Int) := by omega
   by_cases hltc : ix < nc
   ·have hc0 : (ix : Int) < (nc : Int) := by omega
    obtain ⟨b', off, y, As, ks, hA, hbl, hy, hya, hys, hrg⟩ := RowE.at HVr.out.conds (i := ix) (by rw [HNC.out]; exact hltc)
    rw [hA] at c14
    have HRG := Lib.hid hrg
    have HYS := Lib.hid hys
    have hfy := Lib.hid (HFIT.out.conds y (List.mem_of_getElem? hy))
    clear hA hy hya hys hrg
    go_wp2_with (refine wpList_load_mid rfl 120 _ rfl b' (off + ix * 6) rfl (ExC y As ks) _ HRG.out Tryd.underlying120 rfl expr_size ?_)
    refine (HWA.out y hfy.out _ _ HBr.out _ _ HYS.out).mono ?_
    rintro e w1 ⟨⟨a0, b0, rfl⟩, hb⟩
    have HBS1 := Lib.hid (HBR.out.trans (hb.mono HBR.out.size))
    have HV1 := Lib.hid (HVr.out.below hb)
    have HR1 := Lib.hid (HRr.out.below hb)
    have HB1 := Lib.hid (HBr.out.trans (hb.mono HBr.out.size))
    clear c0 c1 c4 c7 c14 c17 c18 r0 r1 q0 q1 lB lB1 hz
    clear hb hbl HRG HYS hfy
    clear HVr HRr HBr
    have c0 : w1.cell? ⟨B, 0, none⟩ = some (.int .i64 2) := by have := HV1.out.at0 0 _ rfl; rwa [HOP.out] at this
    have c1 := HV1.out.at0 1 _ rfl
    have c4 := HV1.out.at0 4 _ rfl
    have c7 := HV1.out.at0 7 _ rfl
    have c14 := HV1.out.at0 14 _ rfl
    have c17 := HV1.out.at0 17 _ rfl
    have c18 := HV1.out.at0 18 _ rfl
    rw [HNC.out] at c14
    rw [HNB.out] at c17
    have r0 := HR1.out.r0
    have r1 := HR1.out.r1
    have q0 := HR1.out.q0
    have q1 := HR1.out.q1
    have lB : B < w1.heap.size := HV1.out.lt
    have lB1 : B + 1 < w1.heap.size := HR1.out.lt
    have hz := HB1.out.size
    go_upto_region 22 with (fail)
    refine wp_name fun W2 hWn => ?_
    obtain ⟨E2, hE⟩ : ∃ E, E = w1.heap.size := ⟨_, rfl⟩
    have e0 : W2.cell? ⟨E2, 0, none⟩ = some (.int .i64 a0) := by rw [hWn.out, hE]; go_simp
    have e1 : W2.cell? ⟨E2, 1, none⟩ = some (.int .i64 b0) := by rw [hWn.out, hE]; go_simp
    have f0 : W2.frozen? ⟨E2, 0, none⟩ = false := by rw [hWn.out, hE]; go_simp
    have f1 : W2.frozen? ⟨E2, 1, none⟩ = false := by rw [hWn.out, hE]; go_simp
    have lE : E2 < W2.heap.size := by rw [hWn.out, hE]; simp
    have hbn : Below w1.heap.size w1 W2 := by rw [hWn.out]; exact belowBy
    have HBS2 := Lib.hid (HBS1.out.trans (hbn.mono HBS1.out.size))
    have hEB : B + 1 < E2 := by have := HR1.out.lt; omega
    have hEw : w.heap.size ≤ E2 := by omega
    rw [← hE]
    have HV2 := Lib.hid (HV1.out.below hbn)
    have HR2 := Lib.hid (HR1.out.below hbn)
    have HB2 := Lib.hid (HB1.out.trans (hbn.mono HB1.out.size))
    clear c0 c1 c4 c7 c14 c17 c18 r0 r1 q0 q1 lB lB1 hz
    clear hWn hE hbn
    clear HV1 HR1 HB1
    have c0 : W2.cell? ⟨B, 0, none⟩ = some (.int .i64 2) := by have := HV2.out.at0 0 _ rfl; rwa [HOP.out] at this
    have c1 := HV2.out.at0 1 _ rfl
    have c4 := HV2.out.at0 4 _ rfl
    have c7 := HV2.out.at0 7 _ rfl
    have c14 := HV2.out.at0 14 _ rfl
    have c17 := HV2.out.at0 17 _ rfl
    have c18 := HV2.out.at0 18 _ rfl
    rw [HNC.out] at c14
    rw [HNB.out] at c17
    have r0 := HR2.out.r0
    have r1 := HR2.out.r1
    have q0 := HR2.out.q0
    have q1 := HR2.out.q1
    have lB : B < W2.heap.size := HV2.out.lt
    have lB1 : B + 1 < W2.heap.size := HR2.out.lt
    have hz := HB2.out.size
    by_cases ha0 : a0 = 0
    ·subst ha0
     go_upto_region 24 with (fail)
     clear e0 e1 f0 f1 lE hEB hEw
     obtain ⟨b5, o5, bl, cs5, hA5, hb5, hz5, ⟨A6, k6, rfl, hr6⟩, hc5⟩ := RowOf.at HV2.out.blocks (i := ix) (by rw [HNB.out]; exact hlt)
     rw [hA5] at c17
     have c5 : _ = some (Value.slice A6 bl.length k6) := hc5 0 (by omega)
     rw [Nat.mul_one, Nat.add_zero] at c5
     have HR6 := Lib.hid hr6
     have HZ := Lib.hid (List.mem_of_getElem? hz5)
     have hk6 := hr6.1
     have hk7 := hr6.2.1
     clear hc5 hr6 hz5 hA5
     go_wp2_with fail
     refine (HBL.out bl HZ.out _ HB2.out _ _ _ HR6.out).mono ?_
     rintro e w2b ⟨⟨a, b, rfl⟩, hb⟩
     have HBS2b := Lib.hid (HBS2.out.trans (hb.mono HBS2.out.size))
     have HV2b := Lib.hid (HV2.out.below hb)
     have HR2b := Lib.hid (HR2.out.below hb)
     have HB2b := Lib.hid (HB2.out.trans (hb.mono HB2.out.size))
     clear c0 c1 c4 c7 c14 c17 c18 r0 r1 q0 q1 lB lB1 hz
     clear hb c5 hb5 hk6 hk7 HR6 HZ
     clear HV2 HR2 HB2
     have c0 : w2b.cell? ⟨B, 0, none⟩ = some (.int .i64 2) := by have := HV2b.out.at0 0 _ rfl; rwa [HOP.out] at this
     have c1 := HV2b.out.at0 1 _ rfl
     have c4 := HV2b.out.at0 4 _ rfl
     have c7 := HV2b.out.at0 7 _ rfl
     have c14 := HV2b.out.at0 14 _ rfl
     have c17 := HV2b.out.at0 17 _ rfl
     have c18 := HV2b.out.at0 18 _ rfl
     rw [HNC.out] at c14
     rw [HNB.out] at c17
     have r0 := HR2b.out.r0
     have r1 := HR2b.out.r1
     have q0 := HR2b.out.q0
     have q1 := HR2b.out.q1
     have lB : B < w2b.heap.size := HV2b.out.lt
     have lB1 : B + 1 < w2b.heap.size := HR2b.out.lt
     have hz := HB2b.out.size
     go_upto_region 25 with (fail)
     refine wp_name fun W2c hWn => ?_
     obtain ⟨E2c, hE⟩ : ∃ E, E = w2b.heap.size := ⟨_, rfl⟩
     have e0 : W2c.cell? ⟨E2c, 0, none⟩ = some (.int .i64 a) := by rw [hWn.out, hE]; go_simp
     have e1 : W2c.cell? ⟨E2c, 1, none⟩ = some (.int .i64 b) := by rw [hWn.out, hE]; go_simp
     have f0 : W2c.frozen? ⟨E2c, 0, none⟩ = false := by rw [hWn.out, hE]; go_simp
     have f1 : W2c.frozen? ⟨E2c, 1, none⟩ = false := by rw [hWn.out, hE]; go_simp
     have lE : E2c < W2c.heap.size := by rw [hWn.out, hE]; simp
     have hbn : Below w2b.heap.size w2b W2c := by rw [hWn.out]; exact belowBy
     have HBS2c := Lib.hid (HBS2b.out.trans (hbn.mono HBS2b.out.size))
     have hEB : B + 1 < E2c := by have := HR2b.out.lt; omega
     have hEw : w.heap.size ≤ E2c := by omega
     rw [← hE]
     have HV2c := Lib.hid (HV2b.out.below hbn)
     have HR2c := Lib.hid (HR2b.out.below hbn)
     have HB2c := Lib.hid (HB2b.out.trans (hbn.mono HB2b.out.size))
     clear c0 c1 c4 c7 c14 c17 c18 r0 r1 q0 q1 lB lB1 hz
     clear hWn hE hbn
     clear HV2b HR2b HB2b
     have c0 : W2c.cell? ⟨B, 0, none⟩ = some (.int .i64 2) := by have := HV2c.out.at0 0 _ rfl; rwa [HOP.out] at this
     have c1 := HV2c.out.at0 1 _ rfl
     have c4 := HV2c.out.at0 4 _ rfl
     have c7 := HV2c.out.at0 7 _ rfl
     have c14 := HV2c.out.at0 14 _ rfl
     have c17 := HV2c.out.at0 17 _ rfl
     have c18 := HV2c.out.at0 18 _ rfl
     rw [HNC.out] at c14
     rw [HNB.out] at c17
     have r0 := HR2c.out.r0
     have r1 := HR2c.out.r1
     have q0 := HR2c.out.q0
     have q1 := HR2c.out.q1
     have lB : B < W2c.heap.size := HV2c.out.lt
     have lB1 : B + 1 < W2c.heap.size := HR2c.out.lt
     have hz := HB2c.out.size
     by_cases ha : a = 0
     ·subst ha
      go_wp2
      go_roundw
      case rel => exact ⟨ix + 1, by omega, by go_num, HBS2c.out⟩
      case measure => simp [intOf]; omega
     ·have hab : (a != 0) = true := by simp [ha]
      go_wp2
      refine bodyPost_ret (v := .agg #[.int .i64 a, .int .i64 b]) (by simp [results, Tryd.results54, go_sem, r0, r1, q0, q1, lB1]) rfl ⟨⟨_, _, rfl⟩, by have hq := HB2c.out; exact belowBy⟩
    ·have hab : (a0 != 0) = true := by simp [ha0]
     go_wp2
     refine bodyPost_ret (v := .agg #[.int .i64 a0, .int .i64 b0]) (by simp [results, Tryd.results54, go_sem, r0, r1, q0, q1, lB1]) rfl ⟨⟨_, _, rfl⟩, by have hq := HB2.out; exact belowBy⟩
   ·have hc0 : ¬ (ix : Int) < (nc : Int) := by omega
    obtain ⟨b5, o5, bl, cs5, hA5, hb5, hz5, ⟨A6, k6, rfl, hr6⟩, hc5⟩ := RowOf.at HVr.out.blocks (i := ix) (by rw [HNB.out]; exact hlt)
    rw [hA5] at c17
    have c5 : _ = some (Value.slice A6 bl.length k6) := hc5 0 (by omega)
    rw [Nat.mul_one, Nat.add_zero] at c5
    have HR6 := Lib.hid hr6
    have HZ := Lib.hid (List.mem_of_getElem? hz5)
    have hk6 := hr6.1
    have hk7 := hr6.2.1
    clear hc5 hr6 hz5 hA5
    go_wp2_with fail
    refine (HBL.out bl HZ.out _ HBr.out _ _ _ HR6.out).mono ?_
    rintro e wrb ⟨⟨a, b, rfl⟩, hb⟩
    have HBSrb := Lib.hid (HBR.out.trans (hb.mono HBR.out.size))
    have HVrb := Lib.hid (HVr.out.below hb)
    have HRrb := Lib.hid (HRr.out.below hb)
    have HBrb := Lib.hid (HBr.out.trans (hb.mono HBr.out.size))
    clear c0 c1 c4 c7 c14 c17 c18 r0 r1 q0 q1 lB lB1 hz
    clear hb c5 hb5 hk6 hk7 HR6 HZ
    clear HVr HRr HBr
    have c0 : wrb.cell? ⟨B, 0, none⟩ = some (.int .i64 2) := by have := HVrb.out.at0 0 _ rfl; rwa [HOP.out] at this
    have c1 := HVrb.out.at0 1 _ rfl
    have c4 := HVrb.out.at0 4 _ rfl
    have c7 := HVrb.out.at0 7 _ rfl
    have c14 := HVrb.out.at0 14 _ rfl
    have c17 := HVrb.out.at0 17 _ rfl
    have c18 := HVrb.out.at0 18 _ rfl
    rw [HNC.out] at c14
    rw [HNB.out] at c17
    have r0 := HRrb.out.r0
    have r1 := HRrb.out.r1
    have q0 := HRrb.out.q0
    have q1 := HRrb.out.q1
    have lB : B < wrb.heap.size := HVrb.out.lt
    have lB1 : B + 1 < wrb.heap.size := HRrb.out.lt
    have hz := HBrb.out.size
    go_upto_region 25 with (fail)
    refine wp_name fun Wrc hWn => ?_
    obtain ⟨Erc, hE⟩ : ∃ E, E = wrb.heap.size := ⟨_, rfl⟩
    have e0 : Wrc.cell? ⟨Erc, 0, none⟩ = some (.int .i64 a) := by rw [hWn.out, hE]; go_simp
    have e1 : Wrc.cell? ⟨Erc, 1, none⟩ = some (.int .i64 b) := by rw [hWn.out, hE]; go_simp
    have f0 : Wrc.frozen? ⟨Erc, 0, none⟩ = false := by rw [hWn.out, hE]; go_simp
    have f1 : Wrc.frozen? ⟨Erc, 1, none⟩ = false := by rw [hWn.out, hE]; go_simp
    have lE : Erc < Wrc.heap.size := by rw [hWn.out, hE]; simp
    have hbn : Below wrb.heap.size wrb Wrc := by rw [hWn.out]; exact belowBy
    have HBSrc := Lib.hid (HBSrb.out.trans (hbn.mono HBSrb.out.size))
    have hEB : B + 1 < Erc := by have := HRrb.out.lt; omega
    have hEw : w.heap.size ≤ Erc := by omega
    rw [← hE]
    have HVrc := Lib.hid (HVrb.out.below hbn)
    have HRrc := Lib.hid (HRrb.out.below hbn)
    have HBrc := Lib.hid (HBrb.out.trans (hbn.mono HBrb.out.size))
    clear c0 c1 c4 c7 c14 c17 c18 r0 r1 q0 q1 lB lB1 hz
    clear hWn hE hbn
    clear HVrb HRrb HBrb
    have c0 : Wrc.cell? ⟨B, 0, none⟩ = some (.int .i64 2) := by have := HVrc.out.at0 0 _ rfl; rwa [HOP.out] at this
    have c1 := HVrc.out.at0 1 _ rfl
    have c4 := HVrc.out.at0 4 _ rfl
    have c7 := HVrc.out.at0 7 _ rfl
    have c14 := HVrc.out.at0 14 _ rfl
    have c17 := HVrc.out.at0 17 _ rfl
    have c18 := HVrc.out.at0 18 _ rfl
    rw [HNC.out] at c14
    rw [HNB.out] at c17
    have r0 := HRrc.out.r0
    have r1 := HRrc.out.r1
    have q0 := HRrc.out.q0
    have q1 := HRrc.out.q1
    have lB : B < Wrc.heap.size := HVrc.out.lt
    have lB1 : B + 1 < Wrc.heap.size := HRrc.out.lt
    have hz := HBrc.out.size
    by_cases ha : a = 0
    ·subst ha
     go_wp2
     go_roundw
     case rel => exact ⟨ix + 1, by omega, by go_num, HBSrc.out⟩
     case measure => simp [intOf]; omega
    ·have hab : (a != 0) = true := by simp [ha]
     go_wp2
     refine bodyPost_ret (v := .agg #[.int .i64 a, .int .i64 b]) (by simp [results, Tryd.results54, go_sem, r0, r1, q0, q1, lB1]) rfl ⟨⟨_, _, rfl⟩, by have hq := HBrc.out; exact belowBy⟩
  ·obtain rfl : ix = nb := by omega
   go_wp2
   refine bodyPost_ret (v := .agg #[.int .i64 0, .int .i64 0]) (by simp [results, Tryd.results54, go_sem, r0, r1, q0, q1, lB1]) rfl ⟨⟨_, _, rfl⟩, by have hq := HBr.out; exact belowBy⟩

end Go.Proofs.YtknnhnefbbjcdaaDoor

namespace Go.Proofs.YtknnhnefbbjcdaaDoor
open Go.RowKit
set_option linter.unusedVariables false
set_option linter.unusedSimpArgs false
attribute [local go_sem] ite_max ite_min vite_max vite_min ext_cell ext_frozen extS_cell extS_frozen

set_option maxRecDepth 100000 in
set_option maxHeartbeats 16000000 in
theorem stmt20_k3 (s : Stm) (m : SM) (w : World) (vA : Option Addr) (vcap nv : Nat) (lp : Bool) (hin : StIn s m w vA vcap nv) (hop : s.op = 3) : Calls Tryd.prog 54 #[.slice vA nv vcap, .agg (StmC s m).toArray, .bool lp] w fun e w' => ErrR e ∧ Below w.heap.size w w' := by
 have HFIND := Lib.hid hin.find
 have HTY := Lib.hid hin.ty
 have HWA := Lib.hid hin.wants
 have HBL := Lib.hid hin.blocks
 have HCALL := Lib.hid hin.call
 have HSV := Lib.hid hin.sv
 have HFIT := Lib.hid hin.fit
 have HOP := Lib.hid hop
 obtain ⟨nc, hnc⟩ : ∃ n, s.conds.length = n := ⟨_, rfl⟩
 obtain ⟨nb, hnb⟩ : ∃ n, s.blocks.length = n := ⟨_, rfl⟩
 have HNC := Lib.hid hnc
 have HNB := Lib.hid hnb
 clear hin hop hnc hnb
 go_enter Tryd.func54, Tryd.ntmps54
 go_upto_region 1 with (refine wpList_boxTo rfl 124 _ rfl _ rfl _ rfl (StmC s m).toArray rfl ?_)
 refine wp_name fun W hW => ?_
 obtain ⟨B, hB⟩ : ∃ B, B = w.heap.size := ⟨_, rfl⟩
 have hB1 : B + 1 = w.heap.size + 1 := by omega
 have hh : W.heap[B]? = some (.cells (StmC s m).toArray 124) := by rw [hW.out, hB]; exact (heap_alloc_old _ _ (by simp)).trans (heap_alloc_new _ _)
 have hR : ResV W (B + 1) := by
  refine ⟨by rw [hW.out, hB]; simp, ?_, ?_, ?_, ?_⟩
  all_goals (rw [hW.out, hB1]; go_simp)
 have hbel : Below w.heap.size w W := by rw [hW.out]; exact belowBy
 have HV := Lib.hid (HSV.out W B hbel hh)
 have HR := Lib.hid hR
 have HB := Lib.hid hbel
 rw [show w.heap.size + 1 = B + 1 by omega, ← hB]
 have hwB : w.heap.size ≤ B := by omega
 clear hW hR hbel hB hB1 hh
 obtain ⟨lnb, hnb0⟩ : nb ≤ m.bk ∧ m.bk ≤ 9223372036854775807 := ⟨by rw [← HNB.out]; exact HV.out.blocks.1, HV.out.blocks.2.1⟩
 obtain ⟨lnc, hnc0⟩ : nc ≤ m.ck ∧ m.ck ≤ 9223372036854775807 := ⟨by rw [← HNC.out]; exact HV.out.conds.1, HV.out.conds.2.1⟩
 have c0 : W.cell? ⟨B, 0, none⟩ = some (.int .i64 3) := by have := HV.out.at0 0 _ rfl; rwa [HOP.out] at this
 have c1 := HV.out.at0 1 _ rfl
 have c4 := HV.out.at0 4 _ rfl
 have c7 := HV.out.at0 7 _ rfl
 have c14 := HV.out.at0 14 _ rfl
 have c17 := HV.out.at0 17 _ rfl
 have c18 := HV.out.at0 18 _ rfl
 rw [HNC.out] at c14
 rw [HNB.out] at c17
 have r0 := HR.out.r0
 have r1 := HR.out.r1
 have q0 := HR.out.q0
 have q1 := HR.out.q1
 have lB : B < W.heap.size := HV.out.lt
 have lB1 : B + 1 < W.heap.size := HR.out.lt
 have hz := HB.out.size
 go_wp2_with (refine wpList_load_mid rfl 120 _ rfl B (8) rfl (ExC s.src m.va m.vk) _ HV.out.rangeSrc Tryd.underlying120 rfl expr_size ?_)
 refine (HWA.out s.src (HFIT.out.src1 (Or.inr (Or.inl HOP.out))) _ _ HB.out _ _ HV.out.src.row).mono ?_
 rintro e w1 ⟨⟨a, b, rfl⟩, hb⟩
 have HV1 := Lib.hid (HV.out.below hb)
 have HR1 := Lib.hid (HR.out.below hb)
 have HB1 := Lib.hid (HB.out.trans (hb.mono HB.out.size))
 clear c0 c1 c4 c7 c14 c17 c18 r0 r1 q0 q1 lB lB1 hz
 clear hb
 clear HV HR HB
 have c0 : w1.cell? ⟨B, 0, none⟩ = some (.int .i64 3) := by have := HV1.out.at0 0 _ rfl; rwa [HOP.out] at this
 have c1 := HV1.out.at0 1 _ rfl
 have c4 := HV1.out.at0 4 _ rfl
 have c7 := HV1.out.at0 7 _ rfl
 have c14 := HV1.out.at0 14 _ rfl
 have c17 := HV1.out.at0 17 _ rfl
 have c18 := HV1.out.at0 18 _ rfl
 rw [HNC.out] at c14
 rw [HNB.out] at c17
 have r0 := HR1.out.r0
 have r1 := HR1.out.r1
 have q0 := HR1.out.q0
 have q1 := HR1.out.q1
 have lB : B < w1.heap.size := HV1.out.lt
 have lB1 : B + 1 < w1.heap.size := HR1.out.lt
 have hz := HB1.out.size
 go_upto_region 29 with (fail)
 refine wp_name fun W2 hWn => ?_
 obtain ⟨E2, hE⟩ : ∃ E, E = w1.heap.size := ⟨_, rfl⟩
 have e0 : W2.cell? ⟨E2, 0, none⟩ = some (.int .i64 a) := by rw [hWn.out, hE]; go_simp
 have e1 : W2.cell? ⟨E2, 1, none⟩ = some (.int .i64 b) := by rw [hWn.out, hE]; go_simp
 have f0 : W2.frozen? ⟨E2, 0, none⟩ = false := by rw [hWn.out, hE]; go_simp
 have f1 : W2.frozen? ⟨E2, 1, none⟩ = false := by rw [hWn.out, hE]; go_simp
 have lE : E2 < W2.heap.size := by rw [hWn.out, hE]; simp
 have hbn : Below w1.heap.size w1 W2 := by rw [hWn.out]; exact belowBy
 have hEB : B + 1 < E2 := by have := HR1.out.lt; omega
 have hEw : w.heap.size ≤ E2 := by omega
 rw [← hE]
 have HV2 := Lib.hid (HV1.out.below hbn)
 have HR2 := Lib.hid (HR1.out.below hbn)
 have HB2 := Lib.hid (HB1.out.trans (hbn.mono HB1.out.size))
 clear c0 c1 c4 c7 c14 c17 c18 r0 r1 q0 q1 lB lB1 hz
 clear hWn hE hbn
 clear HV1 HR1 HB1
 have c0 : W2.cell? ⟨B, 0, none⟩ = some (.int .i64 3) := by have := HV2.out.at0 0 _ rfl; rwa [HOP.out] at this
 have c1 := HV2.out.at0 1 _ rfl
 have c4 := HV2.out.at0 4 _ rfl
 have c7 := HV2.out.at0 7 _ rfl
 have c14 := HV2.out.at0 14 _ rfl
 have c17 := HV2.out.at0 17 _ rfl
 have c18 := HV2.out.at0 18 _ rfl
 rw [HNC.out] at c14
 rw [HNB.out] at c17
 have r0 := HR2.out.r0
 have r1 := HR2.out.r1
 have q0 := HR2.out.q0
 have q1 := HR2.out.q1
 have lB : B < W2.heap.size := HV2.out.lt
 have lB1 : B + 1 < W2.heap.size := HR2.out.lt
 have hz := HB2.out.size
 by_cases ha : a = 0
 ·subst ha
  go_upto_region 32 with (fail)
  clear c0 c1 c4 c7 c14 c17 c18 r0 r1 q0 q1 lB lB1 hz
  clear e0 e1 f0 f1 lE hEB hEw
  go_loopw [16] (fun vi wr => ∃ (ix : Nat), ix ≤ nb ∧ vi = .int .i64 ix ∧ Below W2.heap.size W2 wr) (fun vi _ => nb - (intOf vi).toNat)
  case atStart => exact ⟨0, by omega, rfl, Below.refl _ _⟩
  case round =>
   obtain ⟨ix, hi, rfl, hbr⟩ := hrel
   have HVr := Lib.hid (HV2.out.below hbr)
   have HRr := Lib.hid (HR2.out.below hbr)
   have HBr := Lib.hid (HB2.out.trans (hbr.mono HB2.out.size))
   have c0 : wr.cell? ⟨B, 0, none⟩ = some (.int .i64 3) := by have := HVr.out.at0 0 _ rfl; rwa [HOP.out] at this
   have c1 := HVr.out.at0 1 _ rfl
   have c4 := HVr.out.at0 4 _ rfl
   have c7 := HVr.out.at0 7 _ rfl
   have c14 := HVr.out.at0 14 _ rfl
   have c17 := HVr.out.at0 17 _ rfl
   have c18 := HVr.out.at0 18 _ rfl
   rw [HNC.out] at c14
   rw [HNB.out] at c17
   have r0 := HRr.out.r0
   have r1 := HRr.out.r1
   have q0 := HRr.out.q0
   have q1 := HRr.out.q1
   have lB : B < wr.heap.size := HVr.out.lt
   have lB1 : B + 1 < wr.heap.size := HRr.out.lt
   have hz := HBr.out.size
   have HBR := Lib.hid hbr
   clear hbr
   by_cases hlt : ix < nb
   ·have hi0 : (0 : Int) ≤ (ix : Int) ∧ (ix : Int) < (nb : Int) := by omega
    obtain ⟨b5, o5, bl, cs5, hA5, hb5, hz5, ⟨A6, k6, rfl, hr6⟩, hc5⟩ := RowOf.at HVr.out.blocks (i := ix) (by rw [HNB.out]; exact hlt)
    rw [hA5] at c17
    have c5 : _ = some (Value.slice A6 bl.length k6) := hc5 0 (by omega)
    rw [Nat.mul_one, Nat.add_zero] at c5
    have HR6 := Lib.hid hr6
    have HZ := Lib.hid (List.mem_of_getElem? hz5)
    have hk6 := hr6.1
    have hk7 := hr6.2.1
    clear hc5 hr6 hz5 hA5
    go_wp2_with fail
    refine (HBL.out bl HZ.out _ HBr.out _ _ _ HR6.out).mono ?_
    rintro e wrb ⟨⟨a, b, rfl⟩, hb⟩
    have HBSb := Lib.hid (HBR.out.trans (hb.mono HBR.out.size))
    have HVrb := Lib.hid (HVr.out.below hb)
    have HRrb := Lib.hid (HRr.out.below hb)
    have HBrb := Lib.hid (HBr.out.trans (hb.mono HBr.out.size))
    clear c0 c1 c4 c7 c14 c17 c18 r0 r1 q0 q1 lB lB1 hz
    clear hb c5 hb5 hk6 hk7 HR6 HZ
    clear HVr HRr HBr
    have c0 : wrb.cell? ⟨B, 0, none⟩ = some (.int .i64 3) := by have := HVrb.out.at0 0 _ rfl; rwa [HOP.out] at this
    have c1 := HVrb.out.at0 1 _ rfl
    have c4 := HVrb.out.at0 4 _ rfl
    have c7 := HVrb.out.at0 7 _ rfl
    have c14 := HVrb.out.at0 14 _ rfl
    have c17 := HVrb.out.at0 17 _ rfl
    have c18 := HVrb.out.at0 18 _ rfl
    rw [HNC.out] at c14
    rw [HNB.out] at c17
    have r0 := HRrb.out.r0
    have r1 := HRrb.out.r1
    have q0 := HRrb.out.q0
    have q1 := HRrb.out.q1
    have lB : B < wrb.heap.size := HVrb.out.lt
    have lB1 : B + 1 < wrb.heap.size := HRrb.out.lt
    have hz := HBrb.out.size
    go_upto_region 35 with (fail)
    refine wp_name fun Wrc hWn => ?_
    obtain ⟨Erc, hE⟩ : ∃ E, E = wrb.heap.size := ⟨_, rfl⟩
    have e0 : Wrc.cell? ⟨Erc, 0, none⟩ = some (.int .i64 a) := by rw [hWn.out, hE]; go_simp
    have e1 : Wrc.cell? ⟨Erc, 1, none⟩ = some (.int .i64 b) := by rw [hWn.out, hE]; go_simp
    have f0 : Wrc.frozen? ⟨Erc, 0, none⟩ = false := by rw [hWn.out, hE]; go_simp
    have f1 : Wrc.frozen? ⟨Erc, 1, none⟩ = false := by rw [hWn.out, hE]; go_simp
    have lE : Erc < Wrc.heap.size := by rw [hWn.out, hE]; simp
    have hbn : Below wrb.heap.size wrb Wrc := by rw [hWn.out]; exact belowBy
    have HBSc := Lib.hid (HBSb.out.trans (hbn.mono HBSb.out.size))
    have hEB : B + 1 < Erc := by have := HRrb.out.lt; omega
    have hEw : w.heap.size ≤ Erc := by omega
    rw [← hE]
    have HVrc := Lib.hid (HVrb.out.below hbn)
    have HRrc := Lib.hid (HRrb.out.below hbn)
    have HBrc := Lib.hid (HBrb.out.trans (hbn.mono HBrb.out.size))
    clear c0 c1 c4 c7 c14 c17 c18 r0 r1 q0 q1 lB lB1 hz
    clear hWn hE hbn
    clear HVrb HRrb HBrb
    have c0 : Wrc.cell? ⟨B, 0, none⟩ = some (.int .i64 3) := by have := HVrc.out.at0 0 _ rfl; rwa [HOP.out] at this
    have c1 := HVrc.out.at0 1 _ rfl
    have c4 := HVrc.out.at0 4 _ rfl
    have c7 := HVrc.out.at0 7 _ rfl
    have c14 := HVrc.out.at0 14 _ rfl
    have c17 := HVrc.out.at0 17 _ rfl
    have c18 := HVrc.out.at0 18 _ rfl
    rw [HNC.out] at c14
    rw [HNB.out] at c17
    have r0 := HRrc.out.r0
    have r1 := HRrc.out.r1
    have q0 := HRrc.out.q0
    have q1 := HRrc.out.q1
    have lB : B < Wrc.heap.size := HVrc.out.lt
    have lB1 : B + 1 < Wrc.heap.size := HRrc.out.lt
    have hz := HBrc.out.size
    by_cases ha : a = 0
    ·subst ha
     go_wp2
     go_roundw
     case rel => exact ⟨ix + 1, by omega, by go_num, HBSc.out⟩
     case measure => simp [intOf]; omega
    ·have hab : (a != 0) = true := by simp [ha]
     go_wp2
     refine bodyPost_ret (v := .agg #[.int .i64 a, .int .i64 b]) (by simp [results, Tryd.results54, go_sem, r0, r1, q0, q1, lB1]) rfl ⟨⟨_, _, rfl⟩, by have hq := HBrc.out; exact belowBy⟩
   ·obtain rfl : ix = nb := by omega
    go_wp2
    refine bodyPost_ret (v := .agg #[.int .i64 0, .int .i64 0]) (by simp [results, Tryd.results54, go_sem, r0, r1, q0, q1, lB1]) rfl ⟨⟨_, _, rfl⟩, by have hq := HBr.out; exact belowBy⟩
 ·have hab : (a != 0) = true := by simp [ha]
  go_wp2
  refine bodyPost_ret (v := .agg #[.int .i64 a, .int .i64 b]) (by simp [results, Tryd.results54, go_sem, r0, r1, q0, q1, lB1]) rfl ⟨⟨_, _, rfl⟩, by have hq := HB2.out; exact belowBy⟩

end Go.Proofs.YtknnhnefbbjcdaaDoor

namespace Go.Proofs.YtknnhnefbbjcdaaDoor
open Go.RowKit
set_option linter.unusedVariables false
set_option linter.unusedSimpArgs false
attribute [local go_sem] ite_max ite_min vite_max vite_min ext_cell ext_frozen extS_cell extS_frozen

set_option maxRecDepth 100000 in
set_option maxHeartbeats 16000000 in
theorem stmt20_k4 (s : Stm) (m : SM) (w : World) (vA : Option Addr) (vcap nv : Nat) (lp : Bool) (hin : StIn s m w vA vcap nv) (hop : s.op = 4) : Calls Tryd.prog 54 #[.slice vA nv vcap, .agg (StmC s m).toArray, .bool lp] w fun e w' => ErrR e ∧ Below w.heap.size w w' := by
 have HFIND := Lib.hid hin.find
 have HTY := Lib.hid hin.ty
 have HWA := Lib.hid hin.wants
 have HBL := Lib.hid hin.blocks
 have HCALL := Lib.hid hin.call
 have HSV := Lib.hid hin.sv
 have HFIT := Lib.hid hin.fit
 have HOP := Lib.hid hop
 obtain ⟨nc, hnc⟩ : ∃ n, s.conds.length = n := ⟨_, rfl⟩
 obtain ⟨nb, hnb⟩ : ∃ n, s.blocks.length = n := ⟨_, rfl⟩
 have HNC := Lib.hid hnc
 have HNB := Lib.hid hnb
 clear hin hop hnc hnb
 go_enter Tryd.func54, Tryd.ntmps54
 go_upto_region 1 with (refine wpList_boxTo rfl 124 _ rfl _ rfl _ rfl (StmC s m).toArray rfl ?_)
 refine wp_name fun W hW => ?_
 obtain ⟨B, hB⟩ : ∃ B, B = w.heap.size := ⟨_, rfl⟩
 have hB1 : B + 1 = w.heap.size + 1 := by omega
 have hh : W.heap[B]? = some (.cells (StmC s m).toArray 124) := by rw [hW.out, hB]; exact (heap_alloc_old _ _ (by simp)).trans (heap_alloc_new _ _)
 have hR : ResV W (B + 1) := by
  refine ⟨by rw [hW.out, hB]; simp, ?_, ?_, ?_, ?_⟩
  all_goals (rw [hW.out, hB1]; go_simp)
 have hbel : Below w.heap.size w W := by rw [hW.out]; exact belowBy
 have HV := Lib.hid (HSV.out W B hbel hh)
 have HR := Lib.hid hR
 have HB := Lib.hid hbel
 rw [show w.heap.size + 1 = B + 1 by omega, ← hB]
 have hwB : w.heap.size ≤ B := by omega
 clear hW hR hbel hB hB1 hh
 have hnb1 : nb = 1 := by rw [← HNB.out]; exact (HFIT.out.c4 HOP.out).2
 subst hnb1
 obtain ⟨lnc, hnc0⟩ : nc ≤ m.ck ∧ m.ck ≤ 9223372036854775807 := ⟨by rw [← HNC.out]; exact HV.out.conds.1, HV.out.conds.2.1⟩
 have c0 : W.cell? ⟨B, 0, none⟩ = some (.int .i64 4) := by have := HV.out.at0 0 _ rfl; rwa [HOP.out] at this
 have c1 := HV.out.at0 1 _ rfl
 have c4 := HV.out.at0 4 _ rfl
 have c7 := HV.out.at0 7 _ rfl
 have c14 := HV.out.at0 14 _ rfl
 have c17 := HV.out.at0 17 _ rfl
 have c18 := HV.out.at0 18 _ rfl
 rw [HNC.out] at c14
 rw [HNB.out] at c17
 have r0 := HR.out.r0
 have r1 := HR.out.r1
 have q0 := HR.out.q0
 have q1 := HR.out.q1
 have lB : B < W.heap.size := HV.out.lt
 have lB1 : B + 1 < W.heap.size := HR.out.lt
 have hz := HB.out.size
 go_wp2_with fail
 refine (HFIND.out s.name _ HB.out).mono ?_
 rintro e w1 ⟨⟨v, ok, rfl⟩, hb⟩
 have HV1 := Lib.hid (HV.out.below hb)
 have HR1 := Lib.hid (HR.out.below hb)
 have HB1 := Lib.hid (HB.out.trans (hb.mono HB.out.size))
 clear c0 c1 c4 c7 c14 c17 c18 r0 r1 q0 q1 lB lB1 hz
 clear hb
 clear HV HR HB
 have c0 : w1.cell? ⟨B, 0, none⟩ = some (.int .i64 4) := by have := HV1.out.at0 0 _ rfl; rwa [HOP.out] at this
 have c1 := HV1.out.at0 1 _ rfl
 have c4 := HV1.out.at0 4 _ rfl
 have c7 := HV1.out.at0 7 _ rfl
 have c14 := HV1.out.at0 14 _ rfl
 have c17 := HV1.out.at0 17 _ rfl
 have c18 := HV1.out.at0 18 _ rfl
 rw [HNC.out] at c14
 rw [HNB.out] at c17
 have r0 := HR1.out.r0
 have r1 := HR1.out.r1
 have q0 := HR1.out.q0
 have q1 := HR1.out.q1
 have lB : B < w1.heap.size := HV1.out.lt
 have lB1 : B + 1 < w1.heap.size := HR1.out.lt
 have hz := HB1.out.size
 go_upto_region 39 with (refine wpList_store_new rfl 45 _ _ rfl w1 _ v.cells.toArray rfl rfl rfl var_size8 rfl (var_one8 v) ?_)
 refine wp_name fun W2 hWn => ?_
 obtain ⟨V, hV⟩ : ∃ V, V = w1.heap.size := ⟨_, rfl⟩
 have hh : W2.heap[V]? = some (.cells v.cells.toArray 45) := by rw [hWn.out, hV]; exact heap_alloc_new _ _
 have hbn : Below w1.heap.size w1 W2 := by rw [hWn.out]; exact belowBy
 rw [← hV]
 obtain ⟨ty, hty⟩ : ∃ t, v.type = t := ⟨_, rfl⟩
 have v1 : W2.cell? ⟨V, 1, none⟩ = some (.int .i64 ty) := by rw [← hty]; exact heap_cell 1 _ hh rfl
 obtain ⟨sec, hsec⟩ : ∃ t, v.sect = t := ⟨_, rfl⟩
 have v2 : W2.cell? ⟨V, 2, none⟩ = some (.int .i64 sec) := by rw [← hsec]; exact heap_cell 2 _ hh rfl
 obtain ⟨ar, har⟩ : ∃ t, v.arr = t := ⟨_, rfl⟩
 have v3 : W2.cell? ⟨V, 3, none⟩ = some (.bool ar) := by rw [← har]; exact heap_cell 3 _ hh rfl
 have lV : V < W2.heap.size := (Array.getElem?_eq_some_iff.1 hh).1
 have HV2 := Lib.hid (HV1.out.below hbn)
 have HR2 := Lib.hid (HR1.out.below hbn)
 have HB2 := Lib.hid (HB1.out.trans (hbn.mono HB1.out.size))
 clear hWn hh hV hbn hty hsec har
 clear HV1 HR1 HB1
 clear c0 c1 c4 c7 c14 c17 c18 r0 r1 q0 q1 lB lB1 hz
 have c0 : W2.cell? ⟨B, 0, none⟩ = some (.int .i64 4) := by have := HV2.out.at0 0 _ rfl; rwa [HOP.out] at this
 have c1 := HV2.out.at0 1 _ rfl
 have c4 := HV2.out.at0 4 _ rfl
 have c7 := HV2.out.at0 7 _ rfl
 have c14 := HV2.out.at0 14 _ rfl
 have c17 := HV2.out.at0 17 _ rfl
 have c18 := HV2.out.at0 18 _ rfl
 rw [HNC.out] at c14
 rw [HNB.out] at c17
 have r0 := HR2.out.r0
 have r1 := HR2.out.r1
 have q0 := HR2.out.q0
 have q1 := HR2.out.q1
 have lB : B < W2.heap.size := HV2.out.lt
 have lB1 : B + 1 < W2.heap.size := HR2.out.lt
 have hz := HB2.out.size
 cases ok
 ·go_wp2
  refine bodyPost_ret (v := .agg #[.int .i64 9, .int .i64 s.line]) (by simp [results, Tryd.results54, go_sem, r0, r1, q0, q1, lB1]) rfl ⟨⟨_, _, rfl⟩, by have hq := HB2.out; exact belowBy⟩
 ·by_cases hs : sec = 1
  ·subst hs
   go_wp2
   refine bodyPost_ret (v := .agg #[.int .i64 1, .int .i64 s.line]) (by simp [results, Tryd.results54, go_sem, r0, r1, q0, q1, lB1]) rfl ⟨⟨_, _, rfl⟩, by have hq := HB2.out; exact belowBy⟩
  ·have hs1 : (sec == 1) = false := by simp [hs]
   cases ar
   ·by_cases ht : ty = 1
    ·subst ht
     go_upto_region 46 with (fail)
     clear c0 c1 c4 c7 c14 c17 c18 r0 r1 q0 q1 lB lB1 hz
     clear v1 v2 v3
     go_loopw [20] (fun vi wr => ∃ (ix : Nat), ix ≤ nc ∧ vi = .int .i64 ix ∧ Below W2.heap.size W2 wr) (fun vi _ => nc - (intOf vi).toNat)
     case atStart => exact ⟨0, by omega, rfl, Below.refl _ _⟩
     case round =>
      obtain ⟨ix, hi, rfl, hbr⟩ := hrel
      have HVr := Lib.hid (HV2.out.below hbr)
      have HRr := Lib.hid (HR2.out.below hbr)
      have HBr := Lib.hid (HB2.out.trans (hbr.mono HB2.out.size))
      have c0 : wr.cell? ⟨B, 0, none⟩ = some (.int .i64 4) := by have := HVr.out.at0 0 _ rfl; rwa [HOP.out] at this
      have c1 := HVr.out.at0 1 _ rfl
      have c4 := HVr.out.at0 4 _ rfl
      have c7 := HVr.out.at0 7 _ rfl
      have c14 := HVr.out.at0 14 _ rfl
      have c17 := HVr.out.at0 17 _ rfl
      have c18 := HVr.out.at0 18 _ rfl
      rw [HNC.out] at c14
      rw [HNB.out] at c17
      have r0 := HRr.out.r0
      have r1 := HRr.out.r1
      have q0 := HRr.out.q0
      have q1 := HRr.out.q1
      have lB : B < wr.heap.size := HVr.out.lt
      have lB1 : B + 1 < wr.heap.size := HRr.out.lt
      have hz := HBr.out.size
      have HBR := Lib.hid hbr
      clear hbr
      by_cases hlt : ix < nc
      ·have hc0 : (0 : Int) ≤ (ix : Int) ∧ (ix : Int) < (nc : Int) := by omega
       obtain ⟨b', off, y, As, ks, hA, hbl, hy, hya, hys, hrg⟩ := RowE.at HVr.out.conds (i := ix) (by rw [HNC.out]; exact hlt)
       rw [hA] at c14
       have HRG := Lib.hid hrg
       have HYS := Lib.hid hys
       have hfy := Lib.hid (HFIT.out.conds y (List.mem_of_getElem? hy))
       clear hA hy hya hys hrg
       go_wp2_with (refine wpList_load_mid rfl 120 _ rfl b' (off + ix * 6) rfl (ExC y As ks) _ HRG.out Tryd.underlying120 rfl expr_size ?_)
       refine (HWA.out y hfy.out _ _ HBr.out _ _ HYS.out).mono ?_
       rintro e w4 ⟨⟨a0, b0, rfl⟩, hb⟩
       have HBS4 := Lib.hid (HBR.out.trans (hb.mono HBR.out.size))
       have HV4 := Lib.hid (HVr.out.below hb)
       have HR4 := Lib.hid (HRr.out.below hb)
       have HB4 := Lib.hid (HBr.out.trans (hb.mono HBr.out.size))
       clear c0 c1 c4 c7 c14 c17 c18 r0 r1 q0 q1 lB lB1 hz
       clear hb hbl HRG HYS hfy
       clear HVr HRr HBr
       have c0 : w4.cell? ⟨B, 0, none⟩ = some (.int .i64 4) := by have := HV4.out.at0 0 _ rfl; rwa [HOP.out] at this
       have c1 := HV4.out.at0 1 _ rfl
       have c4 := HV4.out.at0 4 _ rfl
       have c7 := HV4.out.at0 7 _ rfl
       have c14 := HV4.out.at0 14 _ rfl
       have c17 := HV4.out.at0 17 _ rfl
       have c18 := HV4.out.at0 18 _ rfl
       rw [HNC.out] at c14
       rw [HNB.out] at c17
       have r0 := HR4.out.r0
       have r1 := HR4.out.r1
       have q0 := HR4.out.q0
       have q1 := HR4.out.q1
       have lB : B < w4.heap.size := HV4.out.lt
       have lB1 : B + 1 < w4.heap.size := HR4.out.lt
       have hz := HB4.out.size
       go_upto_region 49 with (fail)
       refine wp_name fun W5 hWn => ?_
       obtain ⟨E5, hE⟩ : ∃ E, E = w4.heap.size := ⟨_, rfl⟩
       have e0 : W5.cell? ⟨E5, 0, none⟩ = some (.int .i64 a0) := by rw [hWn.out, hE]; go_simp
       have e1 : W5.cell? ⟨E5, 1, none⟩ = some (.int .i64 b0) := by rw [hWn.out, hE]; go_simp
       have f0 : W5.frozen? ⟨E5, 0, none⟩ = false := by rw [hWn.out, hE]; go_simp
       have f1 : W5.frozen? ⟨E5, 1, none⟩ = false := by rw [hWn.out, hE]; go_simp
       have lE : E5 < W5.heap.size := by rw [hWn.out, hE]; simp
       have hbn : Below w4.heap.size w4 W5 := by rw [hWn.out]; exact belowBy
       have HBS5 := Lib.hid (HBS4.out.trans (hbn.mono HBS4.out.size))
       have hEB : B + 1 < E5 := by have := HR4.out.lt; omega
       have hEw : w.heap.size ≤ E5 := by omega
       rw [← hE]
       have HV5 := Lib.hid (HV4.out.below hbn)
       have HR5 := Lib.hid (HR4.out.below hbn)
       have HB5 := Lib.hid (HB4.out.trans (hbn.mono HB4.out.size))
       clear c0 c1 c4 c7 c14 c17 c18 r0 r1 q0 q1 lB lB1 hz
       clear hWn hE hbn
       clear HV4 HR4 HB4
       have c0 : W5.cell? ⟨B, 0, none⟩ = some (.int .i64 4) := by have := HV5.out.at0 0 _ rfl; rwa [HOP.out] at this
       have c1 := HV5.out.at0 1 _ rfl
       have c4 := HV5.out.at0 4 _ rfl
       have c7 := HV5.out.at0 7 _ rfl
       have c14 := HV5.out.at0 14 _ rfl
       have c17 := HV5.out.at0 17 _ rfl
       have c18 := HV5.out.at0 18 _ rfl
       rw [HNC.out] at c14
       rw [HNB.out] at c17
       have r0 := HR5.out.r0
       have r1 := HR5.out.r1
       have q0 := HR5.out.q0
       have q1 := HR5.out.q1
       have lB : B < W5.heap.size := HV5.out.lt
       have lB1 : B + 1 < W5.heap.size := HR5.out.lt
       have hz := HB5.out.size
       by_cases ha0 : a0 = 0
       ·subst ha0
        go_wp2
        go_roundw
        case rel => exact ⟨ix + 1, by omega, by go_num, HBS5.out⟩
        case measure => simp [intOf]; omega
       ·have hab : (a0 != 0) = true := by simp [ha0]
        go_wp2
        refine bodyPost_ret (v := .agg #[.int .i64 a0, .int .i64 b0]) (by simp [results, Tryd.results54, go_sem, r0, r1, q0, q1, lB1]) rfl ⟨⟨_, _, rfl⟩, by have hq := HB5.out; exact belowBy⟩
      ·obtain rfl : ix = nc := by omega
       obtain ⟨b5, o5, bl, cs5, hA5, hb5, hz5, ⟨A6, k6, rfl, hr6⟩, hc5⟩ := RowOf.at HVr.out.blocks (i := 0) (by rw [HNB.out]; omega)
       rw [hA5] at c17
       have c5 : _ = some (Value.slice A6 bl.length k6) := hc5 0 (by omega)
       simp only [Nat.zero_mul, Nat.add_zero] at c5
       have HR6 := Lib.hid hr6
       have HZ := Lib.hid (List.mem_of_getElem? hz5)
       have hk6 := hr6.1
       have hk7 := hr6.2.1
       clear hc5 hr6 hz5 hA5
       go_wp2_with fail
       refine (HBL.out bl HZ.out _ HBr.out _ _ _ HR6.out).mono ?_
       rintro e w3 ⟨⟨a3, b3, rfl⟩, hb⟩
       have HV3 := Lib.hid (HVr.out.below hb)
       have HR3 := Lib.hid (HRr.out.below hb)
       have HB3 := Lib.hid (HBr.out.trans (hb.mono HBr.out.size))
       clear c0 c1 c4 c7 c14 c17 c18 r0 r1 q0 q1 lB lB1 hz
       clear hb c5 hb5
       clear HVr HRr HBr
       have c0 : w3.cell? ⟨B, 0, none⟩ = some (.int .i64 4) := by have := HV3.out.at0 0 _ rfl; rwa [HOP.out] at this
       have c1 := HV3.out.at0 1 _ rfl
       have c4 := HV3.out.at0 4 _ rfl
       have c7 := HV3.out.at0 7 _ rfl
       have c14 := HV3.out.at0 14 _ rfl
       have c17 := HV3.out.at0 17 _ rfl
       have c18 := HV3.out.at0 18 _ rfl
       rw [HNC.out] at c14
       rw [HNB.out] at c17
       have r0 := HR3.out.r0
       have r1 := HR3.out.r1
       have q0 := HR3.out.q0
       have q1 := HR3.out.q1
       have lB : B < w3.heap.size := HV3.out.lt
       have lB1 : B + 1 < w3.heap.size := HR3.out.lt
       have hz := HB3.out.size
       go_wp2
       refine bodyPost_ret (v := .agg #[.int .i64 a3, .int .i64 b3]) (by simp [results, Tryd.results54, go_sem, r0, r1, q0, q1, lB1]) rfl ⟨⟨_, _, rfl⟩, by have hq := HB3.out; exact belowBy⟩
    ·have ht1 : (ty != 1) = true := by simp [ht]
     go_wp2
     refine bodyPost_ret (v := .agg #[.int .i64 10, .int .i64 s.line]) (by simp [results, Tryd.results54, go_sem, r0, r1, q0, q1, lB1]) rfl ⟨⟨_, _, rfl⟩, by have hq := HB2.out; exact belowBy⟩
   ·go_wp2
    refine bodyPost_ret (v := .agg #[.int .i64 10, .int .i64 s.line]) (by simp [results, Tryd.results54, go_sem, r0, r1, q0, q1, lB1]) rfl ⟨⟨_, _, rfl⟩, by have hq := HB2.out; exact belowBy⟩

end Go.Proofs.YtknnhnefbbjcdaaDoor

namespace Go.Proofs.YtknnhnefbbjcdaaDoor
open Go.RowKit
set_option linter.unusedVariables false
set_option linter.unusedSimpArgs false
attribute [local go_sem] ite_max ite_min vite_max vite_min ext_cell ext_frozen extS_cell extS_frozen

set_option maxRecDepth 100000 in
set_option maxHeartbeats 16000000 in
theorem stmt20_k5 (s : Stm) (m : SM) (w : World) (vA : Option Addr) (vcap nv : Nat) (lp : Bool) (hin : StIn s m w vA vcap nv) (hop : s.op = 5) : Calls Tryd.prog 54 #[.slice vA nv vcap, .agg (StmC s m).toArray, .bool lp] w fun e w' => ErrR e ∧ Below w.heap.size w w' := by
 have HFIND := Lib.hid hin.find
 have HTY := Lib.hid hin.ty
 have HWA := Lib.hid hin.wants
 have HBL := Lib.hid hin.blocks
 have HCALL := Lib.hid hin.call
 have HSV := Lib.hid hin.sv
 have HFIT := Lib.hid hin.fit
 have HOP := Lib.hid hop
 obtain ⟨nc, hnc⟩ : ∃ n, s.conds.length = n := ⟨_, rfl⟩
 obtain ⟨nb, hnb⟩ : ∃ n, s.blocks.length = n := ⟨_, rfl⟩
 have HNC := Lib.hid hnc
 have HNB := Lib.hid hnb
 clear hin hop hnc hnb
 go_enter Tryd.func54, Tryd.ntmps54
 go_upto_region 1 with (refine wpList_boxTo rfl 124 _ rfl _ rfl _ rfl (StmC s m).toArray rfl ?_)
 refine wp_name fun W hW => ?_
 obtain ⟨B, hB⟩ : ∃ B, B = w.heap.size := ⟨_, rfl⟩
 have hB1 : B + 1 = w.heap.size + 1 := by omega
 have hh : W.heap[B]? = some (.cells (StmC s m).toArray 124) := by rw [hW.out, hB]; exact (heap_alloc_old _ _ (by simp)).trans (heap_alloc_new _ _)
 have hR : ResV W (B + 1) := by
  refine ⟨by rw [hW.out, hB]; simp, ?_, ?_, ?_, ?_⟩
  all_goals (rw [hW.out, hB1]; go_simp)
 have hbel : Below w.heap.size w W := by rw [hW.out]; exact belowBy
 have HV := Lib.hid (HSV.out W B hbel hh)
 have HR := Lib.hid hR
 have HB := Lib.hid hbel
 rw [show w.heap.size + 1 = B + 1 by omega, ← hB]
 have hwB : w.heap.size ≤ B := by omega
 clear hW hR hbel hB hB1 hh
 have hnb1 : nb = 1 := by rw [← HNB.out]; exact HFIT.out.c56 (Or.inl HOP.out)
 subst hnb1
 have c0 : W.cell? ⟨B, 0, none⟩ = some (.int .i64 5) := by have := HV.out.at0 0 _ rfl; rwa [HOP.out] at this
 have c1 := HV.out.at0 1 _ rfl
 have c4 := HV.out.at0 4 _ rfl
 have c7 := HV.out.at0 7 _ rfl
 have c14 := HV.out.at0 14 _ rfl
 have c17 := HV.out.at0 17 _ rfl
 have c18 := HV.out.at0 18 _ rfl
 rw [HNC.out] at c14
 rw [HNB.out] at c17
 have r0 := HR.out.r0
 have r1 := HR.out.r1
 have q0 := HR.out.q0
 have q1 := HR.out.q1
 have lB : B < W.heap.size := HV.out.lt
 have lB1 : B + 1 < W.heap.size := HR.out.lt
 have hz := HB.out.size
 go_wp2_with (refine wpList_load_mid rfl 120 _ rfl B (8) rfl (ExC s.src m.va m.vk) _ HV.out.rangeSrc Tryd.underlying120 rfl expr_size ?_)
 refine (HWA.out s.src (HFIT.out.src1 (Or.inr (Or.inr (Or.inl HOP.out)))) _ _ HB.out _ _ HV.out.src.row).mono ?_
 rintro e w1 ⟨⟨a, b, rfl⟩, hb⟩
 have HV1 := Lib.hid (HV.out.below hb)
 have HR1 := Lib.hid (HR.out.below hb)
 have HB1 := Lib.hid (HB.out.trans (hb.mono HB.out.size))
 clear c0 c1 c4 c7 c14 c17 c18 r0 r1 q0 q1 lB lB1 hz
 clear hb
 clear HV HR HB
 have c0 : w1.cell? ⟨B, 0, none⟩ = some (.int .i64 5) := by have := HV1.out.at0 0 _ rfl; rwa [HOP.out] at this
 have c1 := HV1.out.at0 1 _ rfl
 have c4 := HV1.out.at0 4 _ rfl
 have c7 := HV1.out.at0 7 _ rfl
 have c14 := HV1.out.at0 14 _ rfl
 have c17 := HV1.out.at0 17 _ rfl
 have c18 := HV1.out.at0 18 _ rfl
 rw [HNC.out] at c14
 rw [HNB.out] at c17
 have r0 := HR1.out.r0
 have r1 := HR1.out.r1
 have q0 := HR1.out.q0
 have q1 := HR1.out.q1
 have lB : B < w1.heap.size := HV1.out.lt
 have lB1 : B + 1 < w1.heap.size := HR1.out.lt
 have hz := HB1.out.size
 go_upto_region 54 with (fail)
 refine wp_name fun W2 hWn => ?_
 obtain ⟨E2, hE⟩ : ∃ E, E = w1.heap.size := ⟨_, rfl⟩
 have e0 : W2.cell? ⟨E2, 0, none⟩ = some (.int .i64 a) := by rw [hWn.out, hE]; go_simp
 have e1 : W2.cell? ⟨E2, 1, none⟩ = some (.int .i64 b) := by rw [hWn.out, hE]; go_simp
 have f0 : W2.frozen? ⟨E2, 0, none⟩ = false := by rw [hWn.out, hE]; go_simp
 have f1 : W2.frozen? ⟨E2, 1, none⟩ = false := by rw [hWn.out, hE]; go_simp
 have lE : E2 < W2.heap.size := by rw [hWn.out, hE]; simp
 have hbn : Below w1.heap.size w1 W2 := by rw [hWn.out]; exact belowBy
 have hEB : B + 1 < E2 := by have := HR1.out.lt; omega
 have hEw : w.heap.size ≤ E2 := by omega
 rw [← hE]
 have HV2 := Lib.hid (HV1.out.below hbn)
 have HR2 := Lib.hid (HR1.out.below hbn)
 have HB2 := Lib.hid (HB1.out.trans (hbn.mono HB1.out.size))
 clear c0 c1 c4 c7 c14 c17 c18 r0 r1 q0 q1 lB lB1 hz
 clear hWn hE hbn
 clear HV1 HR1 HB1
 have c0 : W2.cell? ⟨B, 0, none⟩ = some (.int .i64 5) := by have := HV2.out.at0 0 _ rfl; rwa [HOP.out] at this
 have c1 := HV2.out.at0 1 _ rfl
 have c4 := HV2.out.at0 4 _ rfl
 have c7 := HV2.out.at0 7 _ rfl
 have c14 := HV2.out.at0 14 _ rfl
 have c17 := HV2.out.at0 17 _ rfl
 have c18 := HV2.out.at0 18 _ rfl
 rw [HNC.out] at c14
 rw [HNB.out] at c17
 have r0 := HR2.out.r0
 have r1 := HR2.out.r1
 have q0 := HR2.out.q0
 have q1 := HR2.out.q1
 have lB : B < W2.heap.size := HV2.out.lt
 have lB1 : B + 1 < W2.heap.size := HR2.out.lt
 have hz := HB2.out.size
 by_cases ha : a = 0
 ·subst ha
  obtain ⟨b5, o5, bl, cs5, hA5, hb5, hz5, ⟨A6, k6, rfl, hr6⟩, hc5⟩ := RowOf.at HV2.out.blocks (i := 0) (by rw [HNB.out]; omega)
  rw [hA5] at c17
  have c5 : _ = some (Value.slice A6 bl.length k6) := hc5 0 (by omega)
  simp only [Nat.zero_mul, Nat.add_zero] at c5
  have HR6 := Lib.hid hr6
  have HZ := Lib.hid (List.mem_of_getElem? hz5)
  have hk6 := hr6.1
  have hk7 := hr6.2.1
  clear hc5 hr6 hz5 hA5
  go_wp2_with fail
  refine (HBL.out bl HZ.out _ HB2.out _ _ _ HR6.out).mono ?_
  rintro e w3 ⟨⟨a3, b3, rfl⟩, hb⟩
  have HV3 := Lib.hid (HV2.out.below hb)
  have HR3 := Lib.hid (HR2.out.below hb)
  have HB3 := Lib.hid (HB2.out.trans (hb.mono HB2.out.size))
  clear c0 c1 c4 c7 c14 c17 c18 r0 r1 q0 q1 lB lB1 hz
  clear e0 e1 f0 f1 lE hEB hEw
  clear hb c5 hb5
  clear HV2 HR2 HB2
  have c0 : w3.cell? ⟨B, 0, none⟩ = some (.int .i64 5) := by have := HV3.out.at0 0 _ rfl; rwa [HOP.out] at this
  have c1 := HV3.out.at0 1 _ rfl
  have c4 := HV3.out.at0 4 _ rfl
  have c7 := HV3.out.at0 7 _ rfl
  have c14 := HV3.out.at0 14 _ rfl
  have c17 := HV3.out.at0 17 _ rfl
  have c18 := HV3.out.at0 18 _ rfl
  rw [HNC.out] at c14
  rw [HNB.out] at c17
  have r0 := HR3.out.r0
  have r1 := HR3.out.r1
  have q0 := HR3.out.q0
  have q1 := HR3.out.q1
  have lB : B < w3.heap.size := HV3.out.lt
  have lB1 : B + 1 < w3.heap.size := HR3.out.lt
  have hz := HB3.out.size
  go_wp2
  refine bodyPost_ret (v := .agg #[.int .i64 a3, .int .i64 b3]) (by simp [results, Tryd.results54, go_sem, r0, r1, q0, q1, lB1]) rfl ⟨⟨_, _, rfl⟩, by have hq := HB3.out; exact belowBy⟩
 ·have hab : (a != 0) = true := by simp [ha]
  go_wp2
  refine bodyPost_ret (v := .agg #[.int .i64 a, .int .i64 b]) (by simp [results, Tryd.results54, go_sem, r0, r1, q0, q1, lB1]) rfl ⟨⟨_, _, rfl⟩, by have hq := HB2.out; exact belowBy⟩

set_option maxRecDepth 100000 in
set_option maxHeartbeats 16000000 in
theorem stmt20_k6 (s : Stm) (m : SM) (w : World) (vA : Option Addr) (vcap nv : Nat) (lp : Bool) (hin : StIn s m w vA vcap nv) (hop : s.op = 6) : Calls Tryd.prog 54 #[.slice vA nv vcap, .agg (StmC s m).toArray, .bool lp] w fun e w' => ErrR e ∧ Below w.heap.size w w' := by
 have HFIND := Lib.hid hin.find
 have HTY := Lib.hid hin.ty
 have HWA := Lib.hid hin.wants
 have HBL := Lib.hid hin.blocks
 have HCALL := Lib.hid hin.call
 have HSV := Lib.hid hin.sv
 have HFIT := Lib.hid hin.fit
 have HOP := Lib.hid hop
 obtain ⟨nc, hnc⟩ : ∃ n, s.conds.length = n := ⟨_, rfl⟩
 obtain ⟨nb, hnb⟩ : ∃ n, s.blocks.length = n := ⟨_, rfl⟩
 have HNC := Lib.hid hnc
 have HNB := Lib.hid hnb
 clear hin hop hnc hnb
 go_enter Tryd.func54, Tryd.ntmps54
 go_upto_region 1 with (refine wpList_boxTo rfl 124 _ rfl _ rfl _ rfl (StmC s m).toArray rfl ?_)
 refine wp_name fun W hW => ?_
 obtain ⟨B, hB⟩ : ∃ B, B = w.heap.size := ⟨_, rfl⟩
 have hB1 : B + 1 = w.heap.size + 1 := by omega
 have hh : W.heap[B]? = some (.cells (StmC s m).toArray 124) := by rw [hW.out, hB]; exact (heap_alloc_old _ _ (by simp)).trans (heap_alloc_new _ _)
 have hR : ResV W (B + 1) := by
  refine ⟨by rw [hW.out, hB]; simp, ?_, ?_, ?_, ?_⟩
  all_goals (rw [hW.out, hB1]; go_simp)
 have hbel : Below w.heap.size w W := by rw [hW.out]; exact belowBy
 have HV := Lib.hid (HSV.out W B hbel hh)
 have HR := Lib.hid hR
 have HB := Lib.hid hbel
 rw [show w.heap.size + 1 = B + 1 by omega, ← hB]
 have hwB : w.heap.size ≤ B := by omega
 clear hW hR hbel hB hB1 hh
 have hnb1 : nb = 1 := by rw [← HNB.out]; exact HFIT.out.c56 (Or.inr HOP.out)
 subst hnb1
 have c0 : W.cell? ⟨B, 0, none⟩ = some (.int .i64 6) := by have := HV.out.at0 0 _ rfl; rwa [HOP.out] at this
 have c1 := HV.out.at0 1 _ rfl
 have c4 := HV.out.at0 4 _ rfl
 have c7 := HV.out.at0 7 _ rfl
 have c14 := HV.out.at0 14 _ rfl
 have c17 := HV.out.at0 17 _ rfl
 have c18 := HV.out.at0 18 _ rfl
 rw [HNC.out] at c14
 rw [HNB.out] at c17
 have r0 := HR.out.r0
 have r1 := HR.out.r1
 have q0 := HR.out.q0
 have q1 := HR.out.q1
 have lB : B < W.heap.size := HV.out.lt
 have lB1 : B + 1 < W.heap.size := HR.out.lt
 have hz := HB.out.size
 obtain ⟨b5, o5, bl, cs5, hA5, hb5, hz5, ⟨A6, k6, rfl, hr6⟩, hc5⟩ := RowOf.at HV.out.blocks (i := 0) (by rw [HNB.out]; omega)
 rw [hA5] at c17
 have c5 : _ = some (Value.slice A6 bl.length k6) := hc5 0 (by omega)
 simp only [Nat.zero_mul, Nat.add_zero] at c5
 have HR6 := Lib.hid hr6
 have HZ := Lib.hid (List.mem_of_getElem? hz5)
 have hk6 := hr6.1
 have hk7 := hr6.2.1
 clear hc5 hr6 hz5 hA5
 go_wp2_with fail
 refine (HBL.out bl HZ.out _ HB.out _ _ _ HR6.out).mono ?_
 rintro e w1 ⟨⟨a, b, rfl⟩, hb⟩
 have HV1 := Lib.hid (HV.out.below hb)
 have HR1 := Lib.hid (HR.out.below hb)
 have HB1 := Lib.hid (HB.out.trans (hb.mono HB.out.size))
 clear c0 c1 c4 c7 c14 c17 c18 r0 r1 q0 q1 lB lB1 hz
 clear hb c5 hb5
 clear HV HR HB
 have c0 : w1.cell? ⟨B, 0, none⟩ = some (.int .i64 6) := by have := HV1.out.at0 0 _ rfl; rwa [HOP.out] at this
 have c1 := HV1.out.at0 1 _ rfl
 have c4 := HV1.out.at0 4 _ rfl
 have c7 := HV1.out.at0 7 _ rfl
 have c14 := HV1.out.at0 14 _ rfl
 have c17 := HV1.out.at0 17 _ rfl
 have c18 := HV1.out.at0 18 _ rfl
 rw [HNC.out] at c14
 rw [HNB.out] at c17
 have r0 := HR1.out.r0
 have r1 := HR1.out.r1
 have q0 := HR1.out.q0
 have q1 := HR1.out.q1
 have lB : B < w1.heap.size := HV1.out.lt
 have lB1 : B + 1 < w1.heap.size := HR1.out.lt
 have hz := HB1.out.size
 go_upto_region 59 with (fail)
 refine wp_name fun W2 hWn => ?_
 obtain ⟨E2, hE⟩ : ∃ E, E = w1.heap.size := ⟨_, rfl⟩
 have e0 : W2.cell? ⟨E2, 0, none⟩ = some (.int .i64 a) := by rw [hWn.out, hE]; go_simp
 have e1 : W2.cell? ⟨E2, 1, none⟩ = some (.int .i64 b) := by rw [hWn.out, hE]; go_simp
 have f0 : W2.frozen? ⟨E2, 0, none⟩ = false := by rw [hWn.out, hE]; go_simp
 have f1 : W2.frozen? ⟨E2, 1, none⟩ = false := by rw [hWn.out, hE]; go_simp
 have lE : E2 < W2.heap.size := by rw [hWn.out, hE]; simp
 have hbn : Below w1.heap.size w1 W2 := by rw [hWn.out]; exact belowBy
 have hEB : B + 1 < E2 := by have := HR1.out.lt; omega
 have hEw : w.heap.size ≤ E2 := by omega
 rw [← hE]
 have HV2 := Lib.hid (HV1.out.below hbn)
 have HR2 := Lib.hid (HR1.out.below hbn)
 have HB2 := Lib.hid (HB1.out.trans (hbn.mono HB1.out.size))
 clear c0 c1 c4 c7 c14 c17 c18 r0 r1 q0 q1 lB lB1 hz
 clear hWn hE hbn
 clear HV1 HR1 HB1
 have c0 : W2.cell? ⟨B, 0, none⟩ = some (.int .i64 6) := by have := HV2.out.at0 0 _ rfl; rwa [HOP.out] at this
 have c1 := HV2.out.at0 1 _ rfl
 have c4 := HV2.out.at0 4 _ rfl
 have c7 := HV2.out.at0 7 _ rfl
 have c14 := HV2.out.at0 14 _ rfl
 have c17 := HV2.out.at0 17 _ rfl
 have c18 := HV2.out.at0 18 _ rfl
 rw [HNC.out] at c14
 rw [HNB.out] at c17
 have r0 := HR2.out.r0
 have r1 := HR2.out.r1
 have q0 := HR2.out.q0
 have q1 := HR2.out.q1
 have lB : B < W2.heap.size := HV2.out.lt
 have lB1 : B + 1 < W2.heap.size := HR2.out.lt
 have hz := HB2.out.size
 by_cases ha : a = 0
 ·subst ha
  go_wp2_with (refine wpList_load_mid rfl 120 _ rfl B (8) rfl (ExC s.src m.va m.vk) _ HV2.out.rangeSrc Tryd.underlying120 rfl expr_size ?_)
  refine (HWA.out s.src (HFIT.out.src1 (Or.inr (Or.inr (Or.inr HOP.out)))) _ _ HB2.out _ _ HV2.out.src.row).mono ?_
  rintro e w3 ⟨⟨a3, b3, rfl⟩, hb⟩
  have HV3 := Lib.hid (HV2.out.below hb)
  have HR3 := Lib.hid (HR2.out.below hb)
  have HB3 := Lib.hid (HB2.out.trans (hb.mono HB2.out.size))
  clear c0 c1 c4 c7 c14 c17 c18 r0 r1 q0 q1 lB lB1 hz
  clear e0 e1 f0 f1 lE hEB hEw
  clear hb
  clear HV2 HR2 HB2
  have c0 : w3.cell? ⟨B, 0, none⟩ = some (.int .i64 6) := by have := HV3.out.at0 0 _ rfl; rwa [HOP.out] at this
  have c1 := HV3.out.at0 1 _ rfl
  have c4 := HV3.out.at0 4 _ rfl
  have c7 := HV3.out.at0 7 _ rfl
  have c14 := HV3.out.at0 14 _ rfl
  have c17 := HV3.out.at0 17 _ rfl
  have c18 := HV3.out.at0 18 _ rfl
  rw [HNC.out] at c14
  rw [HNB.out] at c17
  have r0 := HR3.out.r0
  have r1 := HR3.out.r1
  have q0 := HR3.out.q0
  have q1 := HR3.out.q1
  have lB : B < w3.heap.size := HV3.out.lt
  have lB1 : B + 1 < w3.heap.size := HR3.out.lt
  have hz := HB3.out.size
  go_wp2
  refine bodyPost_ret (v := .agg #[.int .i64 a3, .int .i64 b3]) (by simp [results, Tryd.results54, go_sem, r0, r1, q0, q1, lB1]) rfl ⟨⟨_, _, rfl⟩, by have hq := HB3.out; exact belowBy⟩
 ·have hab : (a != 0) = true := by simp [ha]
  go_wp2
  refine bodyPost_ret (v := .agg #[.int .i64 a, .int .i64 b]) (by simp [results, Tryd.results54, go_sem, r0, r1, q0, q1, lB1]) rfl ⟨⟨_, _, rfl⟩, by have hq := HB2.out; exact belowBy⟩

end Go.Proofs.YtknnhnefbbjcdaaDoor

namespace Go.Proofs.YtknnhnefbbjcdaaDoor
open Go.RowKit
set_option linter.unusedVariables false
set_option linter.unusedSimpArgs false
attribute [local go_sem] ite_max ite_min vite_max vite_min ext_cell ext_frozen extS_cell extS_frozen

set_option maxRecDepth 100000 in
set_option maxHeartbeats 16000000 in
theorem stmt20_k7 (s : Stm) (m : SM) (w : World) (vA : Option Addr) (vcap nv : Nat) (lp : Bool) (hin : StIn s m w vA vcap nv) (hop : s.op = 7) : Calls Tryd.prog 54 #[.slice vA nv vcap, .agg (StmC s m).toArray, .bool lp] w fun e w' => ErrR e ∧ Below w.heap.size w w' := by
 have HFIND := Lib.hid hin.find
 have HTY := Lib.hid hin.ty
 have HWA := Lib.hid hin.wants
 have HBL := Lib.hid hin.blocks
 have HCALL := Lib.hid hin.call
 have HSV := Lib.hid hin.sv
 have HFIT := Lib.hid hin.fit
 have HOP := Lib.hid hop
 obtain ⟨nc, hnc⟩ : ∃ n, s.conds.length = n := ⟨_, rfl⟩
 obtain ⟨nb, hnb⟩ : ∃ n, s.blocks.length = n := ⟨_, rfl⟩
 have HNC := Lib.hid hnc
 have HNB := Lib.hid hnb
 clear hin hop hnc hnb
 go_enter Tryd.func54, Tryd.ntmps54
 go_upto_region 1 with (refine wpList_boxTo rfl 124 _ rfl _ rfl _ rfl (StmC s m).toArray rfl ?_)
 refine wp_name fun W hW => ?_
 obtain ⟨B, hB⟩ : ∃ B, B = w.heap.size := ⟨_, rfl⟩
 have hB1 : B + 1 = w.heap.size + 1 := by omega
 have hh : W.heap[B]? = some (.cells (StmC s m).toArray 124) := by rw [hW.out, hB]; exact (heap_alloc_old _ _ (by simp)).trans (heap_alloc_new _ _)
 have hR : ResV W (B + 1) := by
  refine ⟨by rw [hW.out, hB]; simp, ?_, ?_, ?_, ?_⟩
  all_goals (rw [hW.out, hB1]; go_simp)
 have hbel : Below w.heap.size w W := by rw [hW.out]; exact belowBy
 have HV := Lib.hid (HSV.out W B hbel hh)
 have HR := Lib.hid hR
 have HB := Lib.hid hbel
 rw [show w.heap.size + 1 = B + 1 by omega, ← hB]
 have hwB : w.heap.size ≤ B := by omega
 clear hW hR hbel hB hB1 hh
 have c0 : W.cell? ⟨B, 0, none⟩ = some (.int .i64 7) := by have := HV.out.at0 0 _ rfl; rwa [HOP.out] at this
 have c1 := HV.out.at0 1 _ rfl
 have c4 := HV.out.at0 4 _ rfl
 have c7 := HV.out.at0 7 _ rfl
 have c14 := HV.out.at0 14 _ rfl
 have c17 := HV.out.at0 17 _ rfl
 have c18 := HV.out.at0 18 _ rfl
 rw [HNC.out] at c14
 rw [HNB.out] at c17
 have r0 := HR.out.r0
 have r1 := HR.out.r1
 have q0 := HR.out.q0
 have q1 := HR.out.q1
 have lB : B < W.heap.size := HV.out.lt
 have lB1 : B + 1 < W.heap.size := HR.out.lt
 have hz := HB.out.size
 cases lp
 ·go_wp2
  refine bodyPost_ret (v := .agg #[.int .i64 14, .int .i64 s.line]) (by simp [results, Tryd.results54, go_sem, r0, r1, q0, q1, lB1]) rfl ⟨⟨_, _, rfl⟩, by have hq := HB.out; exact belowBy⟩
 ·go_wp2
  refine bodyPost_ret (v := .agg #[.int .i64 0, .int .i64 0]) (by simp [results, Tryd.results54, go_sem, r0, r1, q0, q1, lB1]) rfl ⟨⟨_, _, rfl⟩, by have hq := HB.out; exact belowBy⟩

set_option maxRecDepth 100000 in
set_option maxHeartbeats 16000000 in
theorem stmt20_k8 (s : Stm) (m : SM) (w : World) (vA : Option Addr) (vcap nv : Nat) (lp : Bool) (hin : StIn s m w vA vcap nv) (hop : s.op = 8) : Calls Tryd.prog 54 #[.slice vA nv vcap, .agg (StmC s m).toArray, .bool lp] w fun e w' => ErrR e ∧ Below w.heap.size w w' := by
 have HFIND := Lib.hid hin.find
 have HTY := Lib.hid hin.ty
 have HWA := Lib.hid hin.wants
 have HBL := Lib.hid hin.blocks
 have HCALL := Lib.hid hin.call
 have HSV := Lib.hid hin.sv
 have HFIT := Lib.hid hin.fit
 have HOP := Lib.hid hop
 obtain ⟨nc, hnc⟩ : ∃ n, s.conds.length = n := ⟨_, rfl⟩
 obtain ⟨nb, hnb⟩ : ∃ n, s.blocks.length = n := ⟨_, rfl⟩
 have HNC := Lib.hid hnc
 have HNB := Lib.hid hnb
 clear hin hop hnc hnb
 go_enter Tryd.func54, Tryd.ntmps54
 go_upto_region 1 with (refine wpList_boxTo rfl 124 _ rfl _ rfl _ rfl (StmC s m).toArray rfl ?_)
 refine wp_name fun W hW => ?_
 obtain ⟨B, hB⟩ : ∃ B, B = w.heap.size := ⟨_, rfl⟩
 have hB1 : B + 1 = w.heap.size + 1 := by omega
 have hh : W.heap[B]? = some (.cells (StmC s m).toArray 124) := by rw [hW.out, hB]; exact (heap_alloc_old _ _ (by simp)).trans (heap_alloc_new _ _)
 have hR : ResV W (B + 1) := by
  refine ⟨by rw [hW.out, hB]; simp, ?_, ?_, ?_, ?_⟩
  all_goals (rw [hW.out, hB1]; go_simp)
 have hbel : Below w.heap.size w W := by rw [hW.out]; exact belowBy
 have HV := Lib.hid (HSV.out W B hbel hh)
 have HR := Lib.hid hR
 have HB := Lib.hid hbel
 rw [show w.heap.size + 1 = B + 1 by omega, ← hB]
 have hwB : w.heap.size ≤ B := by omega
 clear hW hR hbel hB hB1 hh
 have c0 : W.cell? ⟨B, 0, none⟩ = some (.int .i64 8) := by have := HV.out.at0 0 _ rfl; rwa [HOP.out] at this
 have c1 := HV.out.at0 1 _ rfl
 have c4 := HV.out.at0 4 _ rfl
 have c7 := HV.out.at0 7 _ rfl
 have c14 := HV.out.at0 14 _ rfl
 have c17 := HV.out.at0 17 _ rfl
 have c18 := HV.out.at0 18 _ rfl
 rw [HNC.out] at c14
 rw [HNB.out] at c17
 have r0 := HR.out.r0
 have r1 := HR.out.r1
 have q0 := HR.out.q0
 have q1 := HR.out.q1
 have lB : B < W.heap.size := HV.out.lt
 have lB1 : B + 1 < W.heap.size := HR.out.lt
 have hz := HB.out.size
 go_wp2
 refine bodyPost_ret (v := .agg #[.int .i64 0, .int .i64 0]) (by simp [results, Tryd.results54, go_sem, r0, r1, q0, q1, lB1]) rfl ⟨⟨_, _, rfl⟩, by have hq := HB.out; exact belowBy⟩

set_option maxRecDepth 100000 in
set_option maxHeartbeats 16000000 in
theorem stmt20_k9 (s : Stm) (m : SM) (w : World) (vA : Option Addr) (vcap nv : Nat) (lp : Bool) (hin : StIn s m w vA vcap nv) (hop : s.op = 9) : Calls Tryd.prog 54 #[.slice vA nv vcap, .agg (StmC s m).toArray, .bool lp] w fun e w' => ErrR e ∧ Below w.heap.size w w' := by
 have HFIND := Lib.hid hin.find
 have HTY := Lib.hid hin.ty
 have HWA := Lib.hid hin.wants
 have HBL := Lib.hid hin.blocks
 have HCALL := Lib.hid hin.call
 have HSV := Lib.hid hin.sv
 have HFIT := Lib.hid hin.fit
 have HOP := Lib.hid hop
 obtain ⟨nc, hnc⟩ : ∃ n, s.conds.length = n := ⟨_, rfl⟩
 obtain ⟨nb, hnb⟩ : ∃ n, s.blocks.length = n := ⟨_, rfl⟩
 have HNC := Lib.hid hnc
 have HNB := Lib.hid hnb
 clear hin hop hnc hnb
 go_enter Tryd.func54, Tryd.ntmps54
 go_upto_region 1 with (refine wpList_boxTo rfl 124 _ rfl _ rfl _ rfl (StmC s m).toArray rfl ?_)
 refine wp_name fun W hW => ?_
 obtain ⟨B, hB⟩ : ∃ B, B = w.heap.size := ⟨_, rfl⟩
 have hB1 : B + 1 = w.heap.size + 1 := by omega
 have hh : W.heap[B]? = some (.cells (StmC s m).toArray 124) := by rw [hW.out, hB]; exact (heap_alloc_old _ _ (by simp)).trans (heap_alloc_new _ _)
 have hR : ResV W (B + 1) := by
  refine ⟨by rw [hW.out, hB]; simp, ?_, ?_, ?_, ?_⟩
  all_goals (rw [hW.out, hB1]; go_simp)
 have hbel : Below w.heap.size w W := by rw [hW.out]; exact belowBy
 have HV := Lib.hid (HSV.out W B hbel hh)
 have HR := Lib.hid hR
 have HB := Lib.hid hbel
 rw [show w.heap.size + 1 = B + 1 by omega, ← hB]
 have hwB : w.heap.size ≤ B := by omega
 clear hW hR hbel hB hB1 hh
 have c0 : W.cell? ⟨B, 0, none⟩ = some (.int .i64 9) := by have := HV.out.at0 0 _ rfl; rwa [HOP.out] at this
 have c1 := HV.out.at0 1 _ rfl
 have c4 := HV.out.at0 4 _ rfl
 have c7 := HV.out.at0 7 _ rfl
 have c14 := HV.out.at0 14 _ rfl
 have c17 := HV.out.at0 17 _ rfl
 have c18 := HV.out.at0 18 _ rfl
 rw [HNC.out] at c14
 rw [HNB.out] at c17
 have r0 := HR.out.r0
 have r1 := HR.out.r1
 have q0 := HR.out.q0
 have q1 := HR.out.q1
 have lB : B < W.heap.size := HV.out.lt
 have lB1 : B + 1 < W.heap.size := HR.out.lt
 have hz := HB.out.size
 go_wp2_with (refine wpList_load_mid rfl 124 _ rfl B 0 rfl (StmC s m) _ HV.out.range Tryd.underlying124 rfl stmt_size ?_)
 refine (HCALL.out HOP.out _ HB.out).mono ?_
 rintro e w1 ⟨⟨a, b, rfl⟩, hb⟩
 have HV1 := Lib.hid (HV.out.below hb)
 have HR1 := Lib.hid (HR.out.below hb)
 have HB1 := Lib.hid (HB.out.trans (hb.mono HB.out.size))
 clear c0 c1 c4 c7 c14 c17 c18 r0 r1 q0 q1 lB lB1 hz
 clear hb
 clear HV HR HB
 have c0 : w1.cell? ⟨B, 0, none⟩ = some (.int .i64 9) := by have := HV1.out.at0 0 _ rfl; rwa [HOP.out] at this
 have c1 := HV1.out.at0 1 _ rfl
 have c4 := HV1.out.at0 4 _ rfl
 have c7 := HV1.out.at0 7 _ rfl
 have c14 := HV1.out.at0 14 _ rfl
 have c17 := HV1.out.at0 17 _ rfl
 have c18 := HV1.out.at0 18 _ rfl
 rw [HNC.out] at c14
 rw [HNB.out] at c17
 have r0 := HR1.out.r0
 have r1 := HR1.out.r1
 have q0 := HR1.out.q0
 have q1 := HR1.out.q1
 have lB : B < w1.heap.size := HV1.out.lt
 have lB1 : B + 1 < w1.heap.size := HR1.out.lt
 have hz := HB1.out.size
 go_wp2
 refine bodyPost_ret (v := .agg #[.int .i64 a, .int .i64 b]) (by simp [results, Tryd.results54, go_sem, r0, r1, q0, q1, lB1]) rfl ⟨⟨_, _, rfl⟩, by have hq := HB1.out; exact belowBy⟩

end Go.Proofs.YtknnhnefbbjcdaaDoor
