/- Layer 20, the reference: a type is told, of two. PRINTED by wip/tool/mktype.py -/
import Derived.Test.YtknnhnefbbjcdaaDoorLayB
import Derived.RegionTactic
namespace Go.Proofs.YtknnhnefbbjcdaaDoor
open Go.RowKit
set_option linter.unusedVariables false
set_option linter.unusedSimpArgs false
attribute [local go_sem] ite_max ite_min vite_max vite_min ext_cell ext_frozen extS_cell extS_frozen

set_option maxRecDepth 100000 in
set_option maxHeartbeats 16000000 in
theorem type20_k8_8 (x : Ex) (w : World) (A vA : Option Addr) (vcap cap nv : Nat) (op ln : Int) (ns : Nat) (hin : TyIn x w A vA vcap cap nv op ln ns) (hk : op = 8 ∧ ns = 2) : Calls Tryd.prog 59 #[.slice vA nv vcap, .agg (ExC x A cap).toArray] w fun e w' => TyR e ∧ Below w.heap.size w w' := by
 obtain ⟨rfl, rfl⟩ := hk
 have HFIND := Lib.hid hin.find
 have HTY := Lib.hid hin.ty
 have HSUB := Lib.hid hin.sub
 have HOP := Lib.hid hin.opv
 have HNS := Lib.hid hin.nsv
 have HLN := Lib.hid hin.lnv
 have e0 : (ExC x A cap).toArray = #[.int .i64 8, .int .i64 x.n, .string x.name, .string x.field, .slice A 2 cap, .int .i64 ln] := by rw [← HOP.out, ← HNS.out, ← HLN.out]; rfl
 rw [e0]
 clear hin e0
 go_enter Tryd.func59, Tryd.ntmps59
 go_upto_region 2 with (fail)
 refine wp_name fun W hW => ?_
 obtain ⟨B, hB⟩ : ∃ B, B = w.heap.size := ⟨_, rfl⟩
 have hB1 : B + 1 = w.heap.size + 1 := by omega
 have hB2 : B + 2 = w.heap.size + 1 + 1 := by omega
 have hT : TyV W B x A cap := by
  have hh : W.heap[B]? = some (.cells (ExC x A cap).toArray 120) := by
   rw [hW.out, hB]
   have e1 : (ExC x A cap).toArray = #[.int .i64 8, .int .i64 x.n, .string x.name, .string x.field, .slice A 2 cap, .int .i64 ln] := by rw [← HOP.out, ← HNS.out, ← HLN.out]; rfl
   rw [e1]
   exact (heap_alloc_old _ _ (by simp; omega)).trans ((heap_alloc_old _ _ (by simp)).trans (heap_alloc_new _ _))
  refine ⟨by rw [hW.out, hB]; simp, fun j u hu => heap_cell j _ hh (by rw [List.getElem?_toArray]; exact hu), ?_, ?_, ?_, ?_, ?_, ?_⟩
  ·rw [hW.out, hB1]; go_simp
  ·rw [hW.out, hB1]; go_simp
  ·rw [hW.out, hB1]; go_simp
  ·rw [hW.out, hB1]; go_simp
  ·rw [hW.out, hB2]; go_simp
  ·rw [hW.out, hB2, HLN.out]; go_simp
 have HV := Lib.hid hT
 have hbel : Below w.heap.size w W := by rw [hW.out]; exact belowBy
 have HB := Lib.hid hbel
 rw [show w.heap.size + 1 + 1 = B + 2 by omega, show w.heap.size + 1 = B + 1 by omega, ← hB]
 have hwB : w.heap.size ≤ B := by omega
 clear hW hT hbel hB hB1 hB2
 have x0 : W.cell? ⟨B, 0, none⟩ = some (.int .i64 8) := by have := HV.out.xc 0 _ rfl; rwa [HOP.out] at this
 have x2 : W.cell? ⟨B, 2, none⟩ = some (.string x.name) := HV.out.xc 2 _ rfl
 have x3 : W.cell? ⟨B, 3, none⟩ = some (.string x.field) := HV.out.xc 3 _ rfl
 have x4 := HV.out.xc 4 _ rfl
 rw [HNS.out] at x4
 have x5 : W.cell? ⟨B, 5, none⟩ = some (.int .i64 ln) := by have := HV.out.xc 5 _ rfl; rwa [HLN.out] at this
 have r0 := HV.out.r0
 have r1 := HV.out.r1
 have q0 := HV.out.q0
 have q1 := HV.out.q1
 have b0 := HV.out.b0
 have b1 : W.cell? ⟨B + 2, 1, none⟩ = some (.int .i64 ln) := by have := HV.out.b1; rwa [HLN.out] at this
 have lt := HV.out.lt
 have lB : B < W.heap.size := by omega
 have lB1 : B + 1 < W.heap.size := by omega
 have hz := HB.out.size
 obtain ⟨b', off, y, As, ks, hA, hbl, hy, hya, hys, hrg⟩ := RowE.at (HSUB.out.below HB.out) (i := 0) (by rw [HNS.out]; decide)
 subst hA
 rw [Nat.zero_mul, Nat.add_zero] at hrg
 have HRG := Lib.hid hrg
 have HTX := Lib.hid (HTY.out y (List.mem_of_getElem? hy) W HB.out As ks hya hys)
 clear hy hya hys hrg
 go_wp2_with (refine wpList_load_mid rfl 120 _ rfl b' off rfl (ExC y As ks) _ HRG.out Tryd.underlying120 rfl expr_size ?_)
 refine HTX.out.mono ?_
 rintro e w1 ⟨⟨t1, a1, b1', rfl⟩, hb1⟩
 have HV1 := Lib.hid (HV.out.below hb1)
 have HB1 := Lib.hid (HB.out.trans (hb1.mono HB.out.size))
 clear x0 x2 x3 x4 x5 r0 r1 q0 q1 b0 b1 lt lB lB1 hz
 clear hb1 hbl HRG HTX HV HB
 have x0 : w1.cell? ⟨B, 0, none⟩ = some (.int .i64 8) := by have := HV1.out.xc 0 _ rfl; rwa [HOP.out] at this
 have x2 : w1.cell? ⟨B, 2, none⟩ = some (.string x.name) := HV1.out.xc 2 _ rfl
 have x3 : w1.cell? ⟨B, 3, none⟩ = some (.string x.field) := HV1.out.xc 3 _ rfl
 have x4 := HV1.out.xc 4 _ rfl
 rw [HNS.out] at x4
 have x5 : w1.cell? ⟨B, 5, none⟩ = some (.int .i64 ln) := by have := HV1.out.xc 5 _ rfl; rwa [HLN.out] at this
 have r0 := HV1.out.r0
 have r1 := HV1.out.r1
 have q0 := HV1.out.q0
 have q1 := HV1.out.q1
 have b0 := HV1.out.b0
 have b1 : w1.cell? ⟨B + 2, 1, none⟩ = some (.int .i64 ln) := by have := HV1.out.b1; rwa [HLN.out] at this
 have lt := HV1.out.lt
 have lB : B < w1.heap.size := by omega
 have lB1 : B + 1 < w1.heap.size := by omega
 have hz := HB1.out.size
 by_cases ha1 : a1 = 0
 ·subst ha1
  go_upto_region 31 with (fail)
  refine wp_name fun WQ hWQ => ?_
  have hbq : Below w1.heap.size w1 WQ := by rw [hWQ.out]; exact belowBy
  obtain ⟨E, hE⟩ : ∃ E, E = w1.heap.size := ⟨_, rfl⟩
  have eE0 : WQ.cell? ⟨E, 0, none⟩ = some (.int .i64 0) := by rw [hWQ.out, hE]; go_simp
  have eE1 : WQ.cell? ⟨E, 1, none⟩ = some (.int .i64 b1') := by rw [hWQ.out, hE]; go_simp
  have fE0 : WQ.frozen? ⟨E, 0, none⟩ = false := by rw [hWQ.out, hE]; go_simp
  have fE1 : WQ.frozen? ⟨E, 1, none⟩ = false := by rw [hWQ.out, hE]; go_simp
  have lE : E < WQ.heap.size := by rw [hWQ.out, hE]; simp
  have HVQ := Lib.hid (HV1.out.below hbq)
  have HBQ := Lib.hid (HB1.out.trans (hbq.mono HB1.out.size))
  have hEB : B + 2 < E := by have := HV1.out.lt; omega
  rw [← hE]
  clear x0 x2 x3 x4 x5 r0 r1 q0 q1 b0 b1 lt lB lB1 hz
  clear hWQ hbq hE HV1 HB1
  have x0 : WQ.cell? ⟨B, 0, none⟩ = some (.int .i64 8) := by have := HVQ.out.xc 0 _ rfl; rwa [HOP.out] at this
  have x2 : WQ.cell? ⟨B, 2, none⟩ = some (.string x.name) := HVQ.out.xc 2 _ rfl
  have x3 : WQ.cell? ⟨B, 3, none⟩ = some (.string x.field) := HVQ.out.xc 3 _ rfl
  have x4 := HVQ.out.xc 4 _ rfl
  rw [HNS.out] at x4
  have x5 : WQ.cell? ⟨B, 5, none⟩ = some (.int .i64 ln) := by have := HVQ.out.xc 5 _ rfl; rwa [HLN.out] at this
  have r0 := HVQ.out.r0
  have r1 := HVQ.out.r1
  have q0 := HVQ.out.q0
  have q1 := HVQ.out.q1
  have b0 := HVQ.out.b0
  have b1 : WQ.cell? ⟨B + 2, 1, none⟩ = some (.int .i64 ln) := by have := HVQ.out.b1; rwa [HLN.out] at this
  have lt := HVQ.out.lt
  have lB : B < WQ.heap.size := by omega
  have lB1 : B + 1 < WQ.heap.size := by omega
  have hz := HBQ.out.size
  obtain ⟨b', off, y, As, ks, hA, hbl, hy, hya, hys, hrg⟩ := RowE.at (HSUB.out.below HBQ.out) (i := 1) (by rw [HNS.out]; decide)
  injection hA with hA
  injection hA with hA1 hA2
  subst hA1 hA2
  rw [Nat.one_mul] at hrg
  have HRG := Lib.hid hrg
  have HTX := Lib.hid (HTY.out y (List.mem_of_getElem? hy) WQ HBQ.out As ks hya hys)
  clear hy hya hys hrg
  go_wp2_with (refine wpList_load_mid rfl 120 _ rfl b' (off + 6) rfl (ExC y As ks) _ HRG.out Tryd.underlying120 rfl expr_size ?_)
  refine HTX.out.mono ?_
  rintro e w2 ⟨⟨t2, a2, b2', rfl⟩, hb2⟩
  have g0 := (hb2.cell (p := ⟨E, 0, none⟩) lE).trans eE0
  have g1 := (hb2.cell (p := ⟨E, 1, none⟩) lE).trans eE1
  have p0 := (hb2.frozen (p := ⟨E, 0, none⟩) lE).trans fE0
  have p1 := (hb2.frozen (p := ⟨E, 1, none⟩) lE).trans fE1
  have lE2 : E < w2.heap.size := Nat.lt_of_lt_of_le lE hb2.size
  have hEw : w.heap.size ≤ E := by omega
  have HV2 := Lib.hid (HVQ.out.below hb2)
  have HB2 := Lib.hid (HBQ.out.trans (hb2.mono HBQ.out.size))
  clear x0 x2 x3 x4 x5 r0 r1 q0 q1 b0 b1 lt lB lB1 hz
  clear hb2 hbl HRG HTX HVQ HBQ eE0 eE1 fE0 fE1 lE
  have x0 : w2.cell? ⟨B, 0, none⟩ = some (.int .i64 8) := by have := HV2.out.xc 0 _ rfl; rwa [HOP.out] at this
  have x2 : w2.cell? ⟨B, 2, none⟩ = some (.string x.name) := HV2.out.xc 2 _ rfl
  have x3 : w2.cell? ⟨B, 3, none⟩ = some (.string x.field) := HV2.out.xc 3 _ rfl
  have x4 := HV2.out.xc 4 _ rfl
  rw [HNS.out] at x4
  have x5 : w2.cell? ⟨B, 5, none⟩ = some (.int .i64 ln) := by have := HV2.out.xc 5 _ rfl; rwa [HLN.out] at this
  have r0 := HV2.out.r0
  have r1 := HV2.out.r1
  have q0 := HV2.out.q0
  have q1 := HV2.out.q1
  have b0 := HV2.out.b0
  have b1 : w2.cell? ⟨B + 2, 1, none⟩ = some (.int .i64 ln) := by have := HV2.out.b1; rwa [HLN.out] at this
  have lt := HV2.out.lt
  have lB : B < w2.heap.size := by omega
  have lB1 : B + 1 < w2.heap.size := by omega
  have hz := HB2.out.size
  by_cases ha2 : a2 = 0
  ·subst ha2
   go_upto_region 36 with (fail)
   cases hc : (t1 != 1)
   ·cases hd : (t2 != 1)
    ·go_wp2
     refine bodyPost_ret (v := .tuple #[.int .i64 1, .agg #[.int .i64 0, .int .i64 0]]) (by simp [results, Tryd.results59, go_sem, r0, r1, q0, q1, lB1]) rfl ⟨⟨_, _, _, rfl⟩, by have hq := HB2.out; exact belowBy⟩
    ·go_wp2_with fail
     go_region
     all_goals
      go_wp2
      refine bodyPost_ret (v := .tuple #[.int .i64 0, .agg #[.int .i64 10, .int .i64 ln]]) (by simp [results, Tryd.results59, go_sem, r0, r1, q0, q1, lB1]) rfl ⟨⟨_, _, _, rfl⟩, by have hq := HB2.out; exact belowBy⟩
   ·go_wp2_with fail
    go_region
    all_goals
     go_wp2
     refine bodyPost_ret (v := .tuple #[.int .i64 0, .agg #[.int .i64 10, .int .i64 ln]]) (by simp [results, Tryd.results59, go_sem, r0, r1, q0, q1, lB1]) rfl ⟨⟨_, _, _, rfl⟩, by have hq := HB2.out; exact belowBy⟩
  ·have hab : (a2 != 0) = true := by simp [ha2]
   go_wp2_with fail
   go_region
   all_goals
    go_wp2
    refine bodyPost_ret (v := .tuple #[.int .i64 0, .agg #[.int .i64 a2, .int .i64 b2']]) (by simp [results, Tryd.results59, go_sem, r0, r1, q0, q1, lB1]) rfl ⟨⟨_, _, _, rfl⟩, by have hq := HB2.out; exact belowBy⟩
 ·have hab : (a1 != 0) = true := by simp [ha1]
  go_wp2_with fail
  go_region
  all_goals
   go_wp2
   refine bodyPost_ret (v := .tuple #[.int .i64 0, .agg #[.int .i64 a1, .int .i64 b1']]) (by simp [results, Tryd.results59, go_sem, r0, r1, q0, q1, lB1]) rfl ⟨⟨_, _, _, rfl⟩, by have hq := HB1.out; exact belowBy⟩

set_option maxRecDepth 100000 in
set_option maxHeartbeats 16000000 in
theorem type20_k8_9 (x : Ex) (w : World) (A vA : Option Addr) (vcap cap nv : Nat) (op ln : Int) (ns : Nat) (hin : TyIn x w A vA vcap cap nv op ln ns) (hk : op = 9 ∧ ns = 2) : Calls Tryd.prog 59 #[.slice vA nv vcap, .agg (ExC x A cap).toArray] w fun e w' => TyR e ∧ Below w.heap.size w w' := by
 obtain ⟨rfl, rfl⟩ := hk
 have HFIND := Lib.hid hin.find
 have HTY := Lib.hid hin.ty
 have HSUB := Lib.hid hin.sub
 have HOP := Lib.hid hin.opv
 have HNS := Lib.hid hin.nsv
 have HLN := Lib.hid hin.lnv
 have e0 : (ExC x A cap).toArray = #[.int .i64 9, .int .i64 x.n, .string x.name, .string x.field, .slice A 2 cap, .int .i64 ln] := by rw [← HOP.out, ← HNS.out, ← HLN.out]; rfl
 rw [e0]
 clear hin e0
 go_enter Tryd.func59, Tryd.ntmps59
 go_upto_region 2 with (fail)
 refine wp_name fun W hW => ?_
 obtain ⟨B, hB⟩ : ∃ B, B = w.heap.size := ⟨_, rfl⟩
 have hB1 : B + 1 = w.heap.size + 1 := by omega
 have hB2 : B + 2 = w.heap.size + 1 + 1 := by omega
 have hT : TyV W B x A cap := by
  have hh : W.heap[B]? = some (.cells (ExC x A cap).toArray 120) := by
   rw [hW.out, hB]
   have e1 : (ExC x A cap).toArray = #[.int .i64 9, .int .i64 x.n, .string x.name, .string x.field, .slice A 2 cap, .int .i64 ln] := by rw [← HOP.out, ← HNS.out, ← HLN.out]; rfl
   rw [e1]
   exact (heap_alloc_old _ _ (by simp; omega)).trans ((heap_alloc_old _ _ (by simp)).trans (heap_alloc_new _ _))
  refine ⟨by rw [hW.out, hB]; simp, fun j u hu => heap_cell j _ hh (by rw [List.getElem?_toArray]; exact hu), ?_, ?_, ?_, ?_, ?_, ?_⟩
  ·rw [hW.out, hB1]; go_simp
  ·rw [hW.out, hB1]; go_simp
  ·rw [hW.out, hB1]; go_simp
  ·rw [hW.out, hB1]; go_simp
  ·rw [hW.out, hB2]; go_simp
  ·rw [hW.out, hB2, HLN.out]; go_simp
 have HV := Lib.hid hT
 have hbel : Below w.heap.size w W := by rw [hW.out]; exact belowBy
 have HB := Lib.hid hbel
 rw [show w.heap.size + 1 + 1 = B + 2 by omega, show w.heap.size + 1 = B + 1 by omega, ← hB]
 have hwB : w.heap.size ≤ B := by omega
 clear hW hT hbel hB hB1 hB2
 have x0 : W.cell? ⟨B, 0, none⟩ = some (.int .i64 9) := by have := HV.out.xc 0 _ rfl; rwa [HOP.out] at this
 have x2 : W.cell? ⟨B, 2, none⟩ = some (.string x.name) := HV.out.xc 2 _ rfl
 have x3 : W.cell? ⟨B, 3, none⟩ = some (.string x.field) := HV.out.xc 3 _ rfl
 have x4 := HV.out.xc 4 _ rfl
 rw [HNS.out] at x4
 have x5 : W.cell? ⟨B, 5, none⟩ = some (.int .i64 ln) := by have := HV.out.xc 5 _ rfl; rwa [HLN.out] at this
 have r0 := HV.out.r0
 have r1 := HV.out.r1
 have q0 := HV.out.q0
 have q1 := HV.out.q1
 have b0 := HV.out.b0
 have b1 : W.cell? ⟨B + 2, 1, none⟩ = some (.int .i64 ln) := by have := HV.out.b1; rwa [HLN.out] at this
 have lt := HV.out.lt
 have lB : B < W.heap.size := by omega
 have lB1 : B + 1 < W.heap.size := by omega
 have hz := HB.out.size
 obtain ⟨b', off, y, As, ks, hA, hbl, hy, hya, hys, hrg⟩ := RowE.at (HSUB.out.below HB.out) (i := 0) (by rw [HNS.out]; decide)
 subst hA
 rw [Nat.zero_mul, Nat.add_zero] at hrg
 have HRG := Lib.hid hrg
 have HTX := Lib.hid (HTY.out y (List.mem_of_getElem? hy) W HB.out As ks hya hys)
 clear hy hya hys hrg
 go_wp2_with (refine wpList_load_mid rfl 120 _ rfl b' off rfl (ExC y As ks) _ HRG.out Tryd.underlying120 rfl expr_size ?_)
 refine HTX.out.mono ?_
 rintro e w1 ⟨⟨t1, a1, b1', rfl⟩, hb1⟩
 have HV1 := Lib.hid (HV.out.below hb1)
 have HB1 := Lib.hid (HB.out.trans (hb1.mono HB.out.size))
 clear x0 x2 x3 x4 x5 r0 r1 q0 q1 b0 b1 lt lB lB1 hz
 clear hb1 hbl HRG HTX HV HB
 have x0 : w1.cell? ⟨B, 0, none⟩ = some (.int .i64 9) := by have := HV1.out.xc 0 _ rfl; rwa [HOP.out] at this
 have x2 : w1.cell? ⟨B, 2, none⟩ = some (.string x.name) := HV1.out.xc 2 _ rfl
 have x3 : w1.cell? ⟨B, 3, none⟩ = some (.string x.field) := HV1.out.xc 3 _ rfl
 have x4 := HV1.out.xc 4 _ rfl
 rw [HNS.out] at x4
 have x5 : w1.cell? ⟨B, 5, none⟩ = some (.int .i64 ln) := by have := HV1.out.xc 5 _ rfl; rwa [HLN.out] at this
 have r0 := HV1.out.r0
 have r1 := HV1.out.r1
 have q0 := HV1.out.q0
 have q1 := HV1.out.q1
 have b0 := HV1.out.b0
 have b1 : w1.cell? ⟨B + 2, 1, none⟩ = some (.int .i64 ln) := by have := HV1.out.b1; rwa [HLN.out] at this
 have lt := HV1.out.lt
 have lB : B < w1.heap.size := by omega
 have lB1 : B + 1 < w1.heap.size := by omega
 have hz := HB1.out.size
 by_cases ha1 : a1 = 0
 ·subst ha1
  go_upto_region 31 with (fail)
  refine wp_name fun WQ hWQ => ?_
  have hbq : Below w1.heap.size w1 WQ := by rw [hWQ.out]; exact belowBy
  obtain ⟨E, hE⟩ : ∃ E, E = w1.heap.size := ⟨_, rfl⟩
  have eE0 : WQ.cell? ⟨E, 0, none⟩ = some (.int .i64 0) := by rw [hWQ.out, hE]; go_simp
  have eE1 : WQ.cell? ⟨E, 1, none⟩ = some (.int .i64 b1') := by rw [hWQ.out, hE]; go_simp
  have fE0 : WQ.frozen? ⟨E, 0, none⟩ = false := by rw [hWQ.out, hE]; go_simp
  have fE1 : WQ.frozen? ⟨E, 1, none⟩ = false := by rw [hWQ.out, hE]; go_simp
  have lE : E < WQ.heap.size := by rw [hWQ.out, hE]; simp
  have HVQ := Lib.hid (HV1.out.below hbq)
  have HBQ := Lib.hid (HB1.out.trans (hbq.mono HB1.out.size))
  have hEB : B + 2 < E := by have := HV1.out.lt; omega
  rw [← hE]
  clear x0 x2 x3 x4 x5 r0 r1 q0 q1 b0 b1 lt lB lB1 hz
  clear hWQ hbq hE HV1 HB1
  have x0 : WQ.cell? ⟨B, 0, none⟩ = some (.int .i64 9) := by have := HVQ.out.xc 0 _ rfl; rwa [HOP.out] at this
  have x2 : WQ.cell? ⟨B, 2, none⟩ = some (.string x.name) := HVQ.out.xc 2 _ rfl
  have x3 : WQ.cell? ⟨B, 3, none⟩ = some (.string x.field) := HVQ.out.xc 3 _ rfl
  have x4 := HVQ.out.xc 4 _ rfl
  rw [HNS.out] at x4
  have x5 : WQ.cell? ⟨B, 5, none⟩ = some (.int .i64 ln) := by have := HVQ.out.xc 5 _ rfl; rwa [HLN.out] at this
  have r0 := HVQ.out.r0
  have r1 := HVQ.out.r1
  have q0 := HVQ.out.q0
  have q1 := HVQ.out.q1
  have b0 := HVQ.out.b0
  have b1 : WQ.cell? ⟨B + 2, 1, none⟩ = some (.int .i64 ln) := by have := HVQ.out.b1; rwa [HLN.out] at this
  have lt := HVQ.out.lt
  have lB : B < WQ.heap.size := by omega
  have lB1 : B + 1 < WQ.heap.size := by omega
  have hz := HBQ.out.size
  obtain ⟨b', off, y, As, ks, hA, hbl, hy, hya, hys, hrg⟩ := RowE.at (HSUB.out.below HBQ.out) (i := 1) (by rw [HNS.out]; decide)
  injection hA with hA
  injection hA with hA1 hA2
  subst hA1 hA2
  rw [Nat.one_mul] at hrg
  have HRG := Lib.hid hrg
  have HTX := Lib.hid (HTY.out y (List.mem_of_getElem? hy) WQ HBQ.out As ks hya hys)
  clear hy hya hys hrg
  go_wp2_with (refine wpList_load_mid rfl 120 _ rfl b' (off + 6) rfl (ExC y As ks) _ HRG.out Tryd.underlying120 rfl expr_size ?_)
  refine HTX.out.mono ?_
  rintro e w2 ⟨⟨t2, a2, b2', rfl⟩, hb2⟩
  have g0 := (hb2.cell (p := ⟨E, 0, none⟩) lE).trans eE0
  have g1 := (hb2.cell (p := ⟨E, 1, none⟩) lE).trans eE1
  have p0 := (hb2.frozen (p := ⟨E, 0, none⟩) lE).trans fE0
  have p1 := (hb2.frozen (p := ⟨E, 1, none⟩) lE).trans fE1
  have lE2 : E < w2.heap.size := Nat.lt_of_lt_of_le lE hb2.size
  have hEw : w.heap.size ≤ E := by omega
  have HV2 := Lib.hid (HVQ.out.below hb2)
  have HB2 := Lib.hid (HBQ.out.trans (hb2.mono HBQ.out.size))
  clear x0 x2 x3 x4 x5 r0 r1 q0 q1 b0 b1 lt lB lB1 hz
  clear hb2 hbl HRG HTX HVQ HBQ eE0 eE1 fE0 fE1 lE
  have x0 : w2.cell? ⟨B, 0, none⟩ = some (.int .i64 9) := by have := HV2.out.xc 0 _ rfl; rwa [HOP.out] at this
  have x2 : w2.cell? ⟨B, 2, none⟩ = some (.string x.name) := HV2.out.xc 2 _ rfl
  have x3 : w2.cell? ⟨B, 3, none⟩ = some (.string x.field) := HV2.out.xc 3 _ rfl
  have x4 := HV2.out.xc 4 _ rfl
  rw [HNS.out] at x4
  have x5 : w2.cell? ⟨B, 5, none⟩ = some (.int .i64 ln) := by have := HV2.out.xc 5 _ rfl; rwa [HLN.out] at this
  have r0 := HV2.out.r0
  have r1 := HV2.out.r1
  have q0 := HV2.out.q0
  have q1 := HV2.out.q1
  have b0 := HV2.out.b0
  have b1 : w2.cell? ⟨B + 2, 1, none⟩ = some (.int .i64 ln) := by have := HV2.out.b1; rwa [HLN.out] at this
  have lt := HV2.out.lt
  have lB : B < w2.heap.size := by omega
  have lB1 : B + 1 < w2.heap.size := by omega
  have hz := HB2.out.size
  by_cases ha2 : a2 = 0
  ·subst ha2
   go_upto_region 36 with (fail)
   cases hc : (t1 != 1)
   ·cases hd : (t2 != 1)
    ·go_wp2
     refine bodyPost_ret (v := .tuple #[.int .i64 1, .agg #[.int .i64 0, .int .i64 0]]) (by simp [results, Tryd.results59, go_sem, r0, r1, q0, q1, lB1]) rfl ⟨⟨_, _, _, rfl⟩, by have hq := HB2.out; exact belowBy⟩
    ·go_wp2_with fail
     go_region
     all_goals
      go_wp2
      refine bodyPost_ret (v := .tuple #[.int .i64 0, .agg #[.int .i64 10, .int .i64 ln]]) (by simp [results, Tryd.results59, go_sem, r0, r1, q0, q1, lB1]) rfl ⟨⟨_, _, _, rfl⟩, by have hq := HB2.out; exact belowBy⟩
   ·go_wp2_with fail
    go_region
    all_goals
     go_wp2
     refine bodyPost_ret (v := .tuple #[.int .i64 0, .agg #[.int .i64 10, .int .i64 ln]]) (by simp [results, Tryd.results59, go_sem, r0, r1, q0, q1, lB1]) rfl ⟨⟨_, _, _, rfl⟩, by have hq := HB2.out; exact belowBy⟩
  ·have hab : (a2 != 0) = true := by simp [ha2]
   go_wp2_with fail
   go_region
   all_goals
    go_wp2
    refine bodyPost_ret (v := .tuple #[.int .i64 0, .agg #[.int .i64 a2, .int .i64 b2']]) (by simp [results, Tryd.results59, go_sem, r0, r1, q0, q1, lB1]) rfl ⟨⟨_, _, _, rfl⟩, by have hq := HB2.out; exact belowBy⟩
 ·have hab : (a1 != 0) = true := by simp [ha1]
  go_wp2_with fail
  go_region
  all_goals
   go_wp2
   refine bodyPost_ret (v := .tuple #[.int .i64 0, .agg #[.int .i64 a1, .int .i64 b1']]) (by simp [results, Tryd.results59, go_sem, r0, r1, q0, q1, lB1]) rfl ⟨⟨_, _, _, rfl⟩, by have hq := HB1.out; exact belowBy⟩

set_option maxRecDepth 100000 in
set_option maxHeartbeats 16000000 in
theorem type20_k8_10 (x : Ex) (w : World) (A vA : Option Addr) (vcap cap nv : Nat) (op ln : Int) (ns : Nat) (hin : TyIn x w A vA vcap cap nv op ln ns) (hk : op = 10 ∧ ns = 2) : Calls Tryd.prog 59 #[.slice vA nv vcap, .agg (ExC x A cap).toArray] w fun e w' => TyR e ∧ Below w.heap.size w w' := by
 obtain ⟨rfl, rfl⟩ := hk
 have HFIND := Lib.hid hin.find
 have HTY := Lib.hid hin.ty
 have HSUB := Lib.hid hin.sub
 have HOP := Lib.hid hin.opv
 have HNS := Lib.hid hin.nsv
 have HLN := Lib.hid hin.lnv
 have e0 : (ExC x A cap).toArray = #[.int .i64 10, .int .i64 x.n, .string x.name, .string x.field, .slice A 2 cap, .int .i64 ln] := by rw [← HOP.out, ← HNS.out, ← HLN.out]; rfl
 rw [e0]
 clear hin e0
 go_enter Tryd.func59, Tryd.ntmps59
 go_upto_region 2 with (fail)
 refine wp_name fun W hW => ?_
 obtain ⟨B, hB⟩ : ∃ B, B = w.heap.size := ⟨_, rfl⟩
 have hB1 : B + 1 = w.heap.size + 1 := by omega
 have hB2 : B + 2 = w.heap.size + 1 + 1 := by omega
 have hT : TyV W B x A cap := by
  have hh : W.heap[B]? = some (.cells (ExC x A cap).toArray 120) := by
   rw [hW.out, hB]
   have e1 : (ExC x A cap).toArray = #[.int .i64 10, .int .i64 x.n, .string x.name, .string x.field, .slice A 2 cap, .int .i64 ln] := by rw [← HOP.out, ← HNS.out, ← HLN.out]; rfl
   rw [e1]
   exact (heap_alloc_old _ _ (by simp; omega)).trans ((heap_alloc_old _ _ (by simp)).trans (heap_alloc_new _ _))
  refine ⟨by rw [hW.out, hB]; simp, fun j u hu => heap_cell j _ hh (by rw [List.getElem?_toArray]; exact hu), ?_, ?_, ?_, ?_, ?_, ?_⟩
  ·rw [hW.out, hB1]; go_simp
  ·rw [hW.out, hB1]; go_simp
  ·rw [hW.out, hB1]; go_simp
  ·rw [hW.out, hB1]; go_simp
  ·rw [hW.out, hB2]; go_simp
  ·rw [hW.out, hB2, HLN.out]; go_simp
 have HV := Lib.hid hT
 have hbel : Below w.heap.size w W := by rw [hW.out]; exact belowBy
 have HB := Lib.hid hbel
 rw [show w.heap.size + 1 + 1 = B + 2 by omega, show w.heap.size + 1 = B + 1 by omega, ← hB]
 have hwB : w.heap.size ≤ B := by omega
 clear hW hT hbel hB hB1 hB2
 have x0 : W.cell? ⟨B, 0, none⟩ = some (.int .i64 10) := by have := HV.out.xc 0 _ rfl; rwa [HOP.out] at this
 have x2 : W.cell? ⟨B, 2, none⟩ = some (.string x.name) := HV.out.xc 2 _ rfl
 have x3 : W.cell? ⟨B, 3, none⟩ = some (.string x.field) := HV.out.xc 3 _ rfl
 have x4 := HV.out.xc 4 _ rfl
 rw [HNS.out] at x4
 have x5 : W.cell? ⟨B, 5, none⟩ = some (.int .i64 ln) := by have := HV.out.xc 5 _ rfl; rwa [HLN.out] at this
 have r0 := HV.out.r0
 have r1 := HV.out.r1
 have q0 := HV.out.q0
 have q1 := HV.out.q1
 have b0 := HV.out.b0
 have b1 : W.cell? ⟨B + 2, 1, none⟩ = some (.int .i64 ln) := by have := HV.out.b1; rwa [HLN.out] at this
 have lt := HV.out.lt
 have lB : B < W.heap.size := by omega
 have lB1 : B + 1 < W.heap.size := by omega
 have hz := HB.out.size
 obtain ⟨b', off, y, As, ks, hA, hbl, hy, hya, hys, hrg⟩ := RowE.at (HSUB.out.below HB.out) (i := 0) (by rw [HNS.out]; decide)
 subst hA
 rw [Nat.zero_mul, Nat.add_zero] at hrg
 have HRG := Lib.hid hrg
 have HTX := Lib.hid (HTY.out y (List.mem_of_getElem? hy) W HB.out As ks hya hys)
 clear hy hya hys hrg
 go_wp2_with (refine wpList_load_mid rfl 120 _ rfl b' off rfl (ExC y As ks) _ HRG.out Tryd.underlying120 rfl expr_size ?_)
 refine HTX.out.mono ?_
 rintro e w1 ⟨⟨t1, a1, b1', rfl⟩, hb1⟩
 have HV1 := Lib.hid (HV.out.below hb1)
 have HB1 := Lib.hid (HB.out.trans (hb1.mono HB.out.size))
 clear x0 x2 x3 x4 x5 r0 r1 q0 q1 b0 b1 lt lB lB1 hz
 clear hb1 hbl HRG HTX HV HB
 have x0 : w1.cell? ⟨B, 0, none⟩ = some (.int .i64 10) := by have := HV1.out.xc 0 _ rfl; rwa [HOP.out] at this
 have x2 : w1.cell? ⟨B, 2, none⟩ = some (.string x.name) := HV1.out.xc 2 _ rfl
 have x3 : w1.cell? ⟨B, 3, none⟩ = some (.string x.field) := HV1.out.xc 3 _ rfl
 have x4 := HV1.out.xc 4 _ rfl
 rw [HNS.out] at x4
 have x5 : w1.cell? ⟨B, 5, none⟩ = some (.int .i64 ln) := by have := HV1.out.xc 5 _ rfl; rwa [HLN.out] at this
 have r0 := HV1.out.r0
 have r1 := HV1.out.r1
 have q0 := HV1.out.q0
 have q1 := HV1.out.q1
 have b0 := HV1.out.b0
 have b1 : w1.cell? ⟨B + 2, 1, none⟩ = some (.int .i64 ln) := by have := HV1.out.b1; rwa [HLN.out] at this
 have lt := HV1.out.lt
 have lB : B < w1.heap.size := by omega
 have lB1 : B + 1 < w1.heap.size := by omega
 have hz := HB1.out.size
 by_cases ha1 : a1 = 0
 ·subst ha1
  go_upto_region 31 with (fail)
  refine wp_name fun WQ hWQ => ?_
  have hbq : Below w1.heap.size w1 WQ := by rw [hWQ.out]; exact belowBy
  obtain ⟨E, hE⟩ : ∃ E, E = w1.heap.size := ⟨_, rfl⟩
  have eE0 : WQ.cell? ⟨E, 0, none⟩ = some (.int .i64 0) := by rw [hWQ.out, hE]; go_simp
  have eE1 : WQ.cell? ⟨E, 1, none⟩ = some (.int .i64 b1') := by rw [hWQ.out, hE]; go_simp
  have fE0 : WQ.frozen? ⟨E, 0, none⟩ = false := by rw [hWQ.out, hE]; go_simp
  have fE1 : WQ.frozen? ⟨E, 1, none⟩ = false := by rw [hWQ.out, hE]; go_simp
  have lE : E < WQ.heap.size := by rw [hWQ.out, hE]; simp
  have HVQ := Lib.hid (HV1.out.below hbq)
  have HBQ := Lib.hid (HB1.out.trans (hbq.mono HB1.out.size))
  have hEB : B + 2 < E := by have := HV1.out.lt; omega
  rw [← hE]
  clear x0 x2 x3 x4 x5 r0 r1 q0 q1 b0 b1 lt lB lB1 hz
  clear hWQ hbq hE HV1 HB1
  have x0 : WQ.cell? ⟨B, 0, none⟩ = some (.int .i64 10) := by have := HVQ.out.xc 0 _ rfl; rwa [HOP.out] at this
  have x2 : WQ.cell? ⟨B, 2, none⟩ = some (.string x.name) := HVQ.out.xc 2 _ rfl
  have x3 : WQ.cell? ⟨B, 3, none⟩ = some (.string x.field) := HVQ.out.xc 3 _ rfl
  have x4 := HVQ.out.xc 4 _ rfl
  rw [HNS.out] at x4
  have x5 : WQ.cell? ⟨B, 5, none⟩ = some (.int .i64 ln) := by have := HVQ.out.xc 5 _ rfl; rwa [HLN.out] at this
  have r0 := HVQ.out.r0
  have r1 := HVQ.out.r1
  have q0 := HVQ.out.q0
  have q1 := HVQ.out.q1
  have b0 := HVQ.out.b0
  have b1 : WQ.cell? ⟨B + 2, 1, none⟩ = some (.int .i64 ln) := by have := HVQ.out.b1; rwa [HLN.out] at this
  have lt := HVQ.out.lt
  have lB : B < WQ.heap.size := by omega
  have lB1 : B + 1 < WQ.heap.size := by omega
  have hz := HBQ.out.size
  obtain ⟨b', off, y, As, ks, hA, hbl, hy, hya, hys, hrg⟩ := RowE.at (HSUB.out.below HBQ.out) (i := 1) (by rw [HNS.out]; decide)
  injection hA with hA
  injection hA with hA1 hA2
  subst hA1 hA2
  rw [Nat.one_mul] at hrg
  have HRG := Lib.hid hrg
  have HTX := Lib.hid (HTY.out y (List.mem_of_getElem? hy) WQ HBQ.out As ks hya hys)
  clear hy hya hys hrg
  go_wp2_with (refine wpList_load_mid rfl 120 _ rfl b' (off + 6) rfl (ExC y As ks) _ HRG.out Tryd.underlying120 rfl expr_size ?_)
  refine HTX.out.mono ?_
  rintro e w2 ⟨⟨t2, a2, b2', rfl⟩, hb2⟩
  have g0 := (hb2.cell (p := ⟨E, 0, none⟩) lE).trans eE0
  have g1 := (hb2.cell (p := ⟨E, 1, none⟩) lE).trans eE1
  have p0 := (hb2.frozen (p := ⟨E, 0, none⟩) lE).trans fE0
  have p1 := (hb2.frozen (p := ⟨E, 1, none⟩) lE).trans fE1
  have lE2 : E < w2.heap.size := Nat.lt_of_lt_of_le lE hb2.size
  have hEw : w.heap.size ≤ E := by omega
  have HV2 := Lib.hid (HVQ.out.below hb2)
  have HB2 := Lib.hid (HBQ.out.trans (hb2.mono HBQ.out.size))
  clear x0 x2 x3 x4 x5 r0 r1 q0 q1 b0 b1 lt lB lB1 hz
  clear hb2 hbl HRG HTX HVQ HBQ eE0 eE1 fE0 fE1 lE
  have x0 : w2.cell? ⟨B, 0, none⟩ = some (.int .i64 10) := by have := HV2.out.xc 0 _ rfl; rwa [HOP.out] at this
  have x2 : w2.cell? ⟨B, 2, none⟩ = some (.string x.name) := HV2.out.xc 2 _ rfl
  have x3 : w2.cell? ⟨B, 3, none⟩ = some (.string x.field) := HV2.out.xc 3 _ rfl
  have x4 := HV2.out.xc 4 _ rfl
  rw [HNS.out] at x4
  have x5 : w2.cell? ⟨B, 5, none⟩ = some (.int .i64 ln) := by have := HV2.out.xc 5 _ rfl; rwa [HLN.out] at this
  have r0 := HV2.out.r0
  have r1 := HV2.out.r1
  have q0 := HV2.out.q0
  have q1 := HV2.out.q1
  have b0 := HV2.out.b0
  have b1 : w2.cell? ⟨B + 2, 1, none⟩ = some (.int .i64 ln) := by have := HV2.out.b1; rwa [HLN.out] at this
  have lt := HV2.out.lt
  have lB : B < w2.heap.size := by omega
  have lB1 : B + 1 < w2.heap.size := by omega
  have hz := HB2.out.size
  by_cases ha2 : a2 = 0
  ·subst ha2
   go_upto_region 36 with (fail)
   cases hc : (t1 != 1)
   ·cases hd : (t2 != 1)
    ·go_wp2
     refine bodyPost_ret (v := .tuple #[.int .i64 1, .agg #[.int .i64 0, .int .i64 0]]) (by simp [results, Tryd.results59, go_sem, r0, r1, q0, q1, lB1]) rfl ⟨⟨_, _, _, rfl⟩, by have hq := HB2.out; exact belowBy⟩
    ·go_wp2_with fail
     go_region
     all_goals
      go_wp2
      refine bodyPost_ret (v := .tuple #[.int .i64 0, .agg #[.int .i64 10, .int .i64 ln]]) (by simp [results, Tryd.results59, go_sem, r0, r1, q0, q1, lB1]) rfl ⟨⟨_, _, _, rfl⟩, by have hq := HB2.out; exact belowBy⟩
   ·go_wp2_with fail
    go_region
    all_goals
     go_wp2
     refine bodyPost_ret (v := .tuple #[.int .i64 0, .agg #[.int .i64 10, .int .i64 ln]]) (by simp [results, Tryd.results59, go_sem, r0, r1, q0, q1, lB1]) rfl ⟨⟨_, _, _, rfl⟩, by have hq := HB2.out; exact belowBy⟩
  ·have hab : (a2 != 0) = true := by simp [ha2]
   go_wp2_with fail
   go_region
   all_goals
    go_wp2
    refine bodyPost_ret (v := .tuple #[.int .i64 0, .agg #[.int .i64 a2, .int .i64 b2']]) (by simp [results, Tryd.results59, go_sem, r0, r1, q0, q1, lB1]) rfl ⟨⟨_, _, _, rfl⟩, by have hq := HB2.out; exact belowBy⟩
 ·have hab : (a1 != 0) = true := by simp [ha1]
  go_wp2_with fail
  go_region
  all_goals
   go_wp2
   refine bodyPost_ret (v := .tuple #[.int .i64 0, .agg #[.int .i64 a1, .int .i64 b1']]) (by simp [results, Tryd.results59, go_sem, r0, r1, q0, q1, lB1]) rfl ⟨⟨_, _, _, rfl⟩, by have hq := HB1.out; exact belowBy⟩

set_option maxRecDepth 100000 in
set_option maxHeartbeats 16000000 in
theorem type20_k8_11 (x : Ex) (w : World) (A vA : Option Addr) (vcap cap nv : Nat) (op ln : Int) (ns : Nat) (hin : TyIn x w A vA vcap cap nv op ln ns) (hk : op = 11 ∧ ns = 2) : Calls Tryd.prog 59 #[.slice vA nv vcap, .agg (ExC x A cap).toArray] w fun e w' => TyR e ∧ Below w.heap.size w w' := by
 obtain ⟨rfl, rfl⟩ := hk
 have HFIND := Lib.hid hin.find
 have HTY := Lib.hid hin.ty
 have HSUB := Lib.hid hin.sub
 have HOP := Lib.hid hin.opv
 have HNS := Lib.hid hin.nsv
 have HLN := Lib.hid hin.lnv
 have e0 : (ExC x A cap).toArray = #[.int .i64 11, .int .i64 x.n, .string x.name, .string x.field, .slice A 2 cap, .int .i64 ln] := by rw [← HOP.out, ← HNS.out, ← HLN.out]; rfl
 rw [e0]
 clear hin e0
 go_enter Tryd.func59, Tryd.ntmps59
 go_upto_region 2 with (fail)
 refine wp_name fun W hW => ?_
 obtain ⟨B, hB⟩ : ∃ B, B = w.heap.size := ⟨_, rfl⟩
 have hB1 : B + 1 = w.heap.size + 1 := by omega
 have hB2 : B + 2 = w.heap.size + 1 + 1 := by omega
 have hT : TyV W B x A cap := by
  have hh : W.heap[B]? = some (.cells (ExC x A cap).toArray 120) := by
   rw [hW.out, hB]
   have e1 : (ExC x A cap).toArray = #[.int .i64 11, .int .i64 x.n, .string x.name, .string x.field, .slice A 2 cap, .int .i64 ln] := by rw [← HOP.out, ← HNS.out, ← HLN.out]; rfl
   rw [e1]
   exact (heap_alloc_old _ _ (by simp; omega)).trans ((heap_alloc_old _ _ (by simp)).trans (heap_alloc_new _ _))
  refine ⟨by rw [hW.out, hB]; simp, fun j u hu => heap_cell j _ hh (by rw [List.getElem?_toArray]; exact hu), ?_, ?_, ?_, ?_, ?_, ?_⟩
  ·rw [hW.out, hB1]; go_simp
  ·rw [hW.out, hB1]; go_simp
  ·rw [hW.out, hB1]; go_simp
  ·rw [hW.out, hB1]; go_simp
  ·rw [hW.out, hB2]; go_simp
  ·rw [hW.out, hB2, HLN.out]; go_simp
 have HV := Lib.hid hT
 have hbel : Below w.heap.size w W := by rw [hW.out]; exact belowBy
 have HB := Lib.hid hbel
 rw [show w.heap.size + 1 + 1 = B + 2 by omega, show w.heap.size + 1 = B + 1 by omega, ← hB]
 have hwB : w.heap.size ≤ B := by omega
 clear hW hT hbel hB hB1 hB2
 have x0 : W.cell? ⟨B, 0, none⟩ = some (.int .i64 11) := by have := HV.out.xc 0 _ rfl; rwa [HOP.out] at this
 have x2 : W.cell? ⟨B, 2, none⟩ = some (.string x.name) := HV.out.xc 2 _ rfl
 have x3 : W.cell? ⟨B, 3, none⟩ = some (.string x.field) := HV.out.xc 3 _ rfl
 have x4 := HV.out.xc 4 _ rfl
 rw [HNS.out] at x4
 have x5 : W.cell? ⟨B, 5, none⟩ = some (.int .i64 ln) := by have := HV.out.xc 5 _ rfl; rwa [HLN.out] at this
 have r0 := HV.out.r0
 have r1 := HV.out.r1
 have q0 := HV.out.q0
 have q1 := HV.out.q1
 have b0 := HV.out.b0
 have b1 : W.cell? ⟨B + 2, 1, none⟩ = some (.int .i64 ln) := by have := HV.out.b1; rwa [HLN.out] at this
 have lt := HV.out.lt
 have lB : B < W.heap.size := by omega
 have lB1 : B + 1 < W.heap.size := by omega
 have hz := HB.out.size
 obtain ⟨b', off, y, As, ks, hA, hbl, hy, hya, hys, hrg⟩ := RowE.at (HSUB.out.below HB.out) (i := 0) (by rw [HNS.out]; decide)
 subst hA
 rw [Nat.zero_mul, Nat.add_zero] at hrg
 have HRG := Lib.hid hrg
 have HTX := Lib.hid (HTY.out y (List.mem_of_getElem? hy) W HB.out As ks hya hys)
 clear hy hya hys hrg
 go_wp2_with (refine wpList_load_mid rfl 120 _ rfl b' off rfl (ExC y As ks) _ HRG.out Tryd.underlying120 rfl expr_size ?_)
 refine HTX.out.mono ?_
 rintro e w1 ⟨⟨t1, a1, b1', rfl⟩, hb1⟩
 have HV1 := Lib.hid (HV.out.below hb1)
 have HB1 := Lib.hid (HB.out.trans (hb1.mono HB.out.size))
 clear x0 x2 x3 x4 x5 r0 r1 q0 q1 b0 b1 lt lB lB1 hz
 clear hb1 hbl HRG HTX HV HB
 have x0 : w1.cell? ⟨B, 0, none⟩ = some (.int .i64 11) := by have := HV1.out.xc 0 _ rfl; rwa [HOP.out] at this
 have x2 : w1.cell? ⟨B, 2, none⟩ = some (.string x.name) := HV1.out.xc 2 _ rfl
 have x3 : w1.cell? ⟨B, 3, none⟩ = some (.string x.field) := HV1.out.xc 3 _ rfl
 have x4 := HV1.out.xc 4 _ rfl
 rw [HNS.out] at x4
 have x5 : w1.cell? ⟨B, 5, none⟩ = some (.int .i64 ln) := by have := HV1.out.xc 5 _ rfl; rwa [HLN.out] at this
 have r0 := HV1.out.r0
 have r1 := HV1.out.r1
 have q0 := HV1.out.q0
 have q1 := HV1.out.q1
 have b0 := HV1.out.b0
 have b1 : w1.cell? ⟨B + 2, 1, none⟩ = some (.int .i64 ln) := by have := HV1.out.b1; rwa [HLN.out] at this
 have lt := HV1.out.lt
 have lB : B < w1.heap.size := by omega
 have lB1 : B + 1 < w1.heap.size := by omega
 have hz := HB1.out.size
 by_cases ha1 : a1 = 0
 ·subst ha1
  go_upto_region 31 with (fail)
  refine wp_name fun WQ hWQ => ?_
  have hbq : Below w1.heap.size w1 WQ := by rw [hWQ.out]; exact belowBy
  obtain ⟨E, hE⟩ : ∃ E, E = w1.heap.size := ⟨_, rfl⟩
  have eE0 : WQ.cell? ⟨E, 0, none⟩ = some (.int .i64 0) := by rw [hWQ.out, hE]; go_simp
  have eE1 : WQ.cell? ⟨E, 1, none⟩ = some (.int .i64 b1') := by rw [hWQ.out, hE]; go_simp
  have fE0 : WQ.frozen? ⟨E, 0, none⟩ = false := by rw [hWQ.out, hE]; go_simp
  have fE1 : WQ.frozen? ⟨E, 1, none⟩ = false := by rw [hWQ.out, hE]; go_simp
  have lE : E < WQ.heap.size := by rw [hWQ.out, hE]; simp
  have HVQ := Lib.hid (HV1.out.below hbq)
  have HBQ := Lib.hid (HB1.out.trans (hbq.mono HB1.out.size))
  have hEB : B + 2 < E := by have := HV1.out.lt; omega
  rw [← hE]
  clear x0 x2 x3 x4 x5 r0 r1 q0 q1 b0 b1 lt lB lB1 hz
  clear hWQ hbq hE HV1 HB1
  have x0 : WQ.cell? ⟨B, 0, none⟩ = some (.int .i64 11) := by have := HVQ.out.xc 0 _ rfl; rwa [HOP.out] at this
  have x2 : WQ.cell? ⟨B, 2, none⟩ = some (.string x.name) := HVQ.out.xc 2 _ rfl
  have x3 : WQ.cell? ⟨B, 3, none⟩ = some (.string x.field) := HVQ.out.xc 3 _ rfl
  have x4 := HVQ.out.xc 4 _ rfl
  rw [HNS.out] at x4
  have x5 : WQ.cell? ⟨B, 5, none⟩ = some (.int .i64 ln) := by have := HVQ.out.xc 5 _ rfl; rwa [HLN.out] at this
  have r0 := HVQ.out.r0
  have r1 := HVQ.out.r1
  have q0 := HVQ.out.q0
  have q1 := HVQ.out.q1
  have b0 := HVQ.out.b0
  have b1 : WQ.cell? ⟨B + 2, 1, none⟩ = some (.int .i64 ln) := by have := HVQ.out.b1; rwa [HLN.out] at this
  have lt := HVQ.out.lt
  have lB : B < WQ.heap.size := by omega
  have lB1 : B + 1 < WQ.heap.size := by omega
  have hz := HBQ.out.size
  obtain ⟨b', off, y, As, ks, hA, hbl, hy, hya, hys, hrg⟩ := RowE.at (HSUB.out.below HBQ.out) (i := 1) (by rw [HNS.out]; decide)
  injection hA with hA
  injection hA with hA1 hA2
  subst hA1 hA2
  rw [Nat.one_mul] at hrg
  have HRG := Lib.hid hrg
  have HTX := Lib.hid (HTY.out y (List.mem_of_getElem? hy) WQ HBQ.out As ks hya hys)
  clear hy hya hys hrg
  go_wp2_with (refine wpList_load_mid rfl 120 _ rfl b' (off + 6) rfl (ExC y As ks) _ HRG.out Tryd.underlying120 rfl expr_size ?_)
  refine HTX.out.mono ?_
  rintro e w2 ⟨⟨t2, a2, b2', rfl⟩, hb2⟩
  have g0 := (hb2.cell (p := ⟨E, 0, none⟩) lE).trans eE0
  have g1 := (hb2.cell (p := ⟨E, 1, none⟩) lE).trans eE1
  have p0 := (hb2.frozen (p := ⟨E, 0, none⟩) lE).trans fE0
  have p1 := (hb2.frozen (p := ⟨E, 1, none⟩) lE).trans fE1
  have lE2 : E < w2.heap.size := Nat.lt_of_lt_of_le lE hb2.size
  have hEw : w.heap.size ≤ E := by omega
  have HV2 := Lib.hid (HVQ.out.below hb2)
  have HB2 := Lib.hid (HBQ.out.trans (hb2.mono HBQ.out.size))
  clear x0 x2 x3 x4 x5 r0 r1 q0 q1 b0 b1 lt lB lB1 hz
  clear hb2 hbl HRG HTX HVQ HBQ eE0 eE1 fE0 fE1 lE
  have x0 : w2.cell? ⟨B, 0, none⟩ = some (.int .i64 11) := by have := HV2.out.xc 0 _ rfl; rwa [HOP.out] at this
  have x2 : w2.cell? ⟨B, 2, none⟩ = some (.string x.name) := HV2.out.xc 2 _ rfl
  have x3 : w2.cell? ⟨B, 3, none⟩ = some (.string x.field) := HV2.out.xc 3 _ rfl
  have x4 := HV2.out.xc 4 _ rfl
  rw [HNS.out] at x4
  have x5 : w2.cell? ⟨B, 5, none⟩ = some (.int .i64 ln) := by have := HV2.out.xc 5 _ rfl; rwa [HLN.out] at this
  have r0 := HV2.out.r0
  have r1 := HV2.out.r1
  have q0 := HV2.out.q0
  have q1 := HV2.out.q1
  have b0 := HV2.out.b0
  have b1 : w2.cell? ⟨B + 2, 1, none⟩ = some (.int .i64 ln) := by have := HV2.out.b1; rwa [HLN.out] at this
  have lt := HV2.out.lt
  have lB : B < w2.heap.size := by omega
  have lB1 : B + 1 < w2.heap.size := by omega
  have hz := HB2.out.size
  by_cases ha2 : a2 = 0
  ·subst ha2
   go_upto_region 36 with (fail)
   cases hc : (t1 != 1)
   ·cases hd : (t2 != 1)
    ·go_wp2
     refine bodyPost_ret (v := .tuple #[.int .i64 1, .agg #[.int .i64 0, .int .i64 0]]) (by simp [results, Tryd.results59, go_sem, r0, r1, q0, q1, lB1]) rfl ⟨⟨_, _, _, rfl⟩, by have hq := HB2.out; exact belowBy⟩
    ·go_wp2_with fail
     go_region
     all_goals
      go_wp2
      refine bodyPost_ret (v := .tuple #[.int .i64 0, .agg #[.int .i64 10, .int .i64 ln]]) (by simp [results, Tryd.results59, go_sem, r0, r1, q0, q1, lB1]) rfl ⟨⟨_, _, _, rfl⟩, by have hq := HB2.out; exact belowBy⟩
   ·go_wp2_with fail
    go_region
    all_goals
     go_wp2
     refine bodyPost_ret (v := .tuple #[.int .i64 0, .agg #[.int .i64 10, .int .i64 ln]]) (by simp [results, Tryd.results59, go_sem, r0, r1, q0, q1, lB1]) rfl ⟨⟨_, _, _, rfl⟩, by have hq := HB2.out; exact belowBy⟩
  ·have hab : (a2 != 0) = true := by simp [ha2]
   go_wp2_with fail
   go_region
   all_goals
    go_wp2
    refine bodyPost_ret (v := .tuple #[.int .i64 0, .agg #[.int .i64 a2, .int .i64 b2']]) (by simp [results, Tryd.results59, go_sem, r0, r1, q0, q1, lB1]) rfl ⟨⟨_, _, _, rfl⟩, by have hq := HB2.out; exact belowBy⟩
 ·have hab : (a1 != 0) = true := by simp [ha1]
  go_wp2_with fail
  go_region
  all_goals
   go_wp2
   refine bodyPost_ret (v := .tuple #[.int .i64 0, .agg #[.int .i64 a1, .int .i64 b1']]) (by simp [results, Tryd.results59, go_sem, r0, r1, q0, q1, lB1]) rfl ⟨⟨_, _, _, rfl⟩, by have hq := HB1.out; exact belowBy⟩

set_option maxRecDepth 100000 in
set_option maxHeartbeats 16000000 in
theorem type20_k8_12 (x : Ex) (w : World) (A vA : Option Addr) (vcap cap nv : Nat) (op ln : Int) (ns : Nat) (hin : TyIn x w A vA vcap cap nv op ln ns) (hk : op = 12 ∧ ns = 2) : Calls Tryd.prog 59 #[.slice vA nv vcap, .agg (ExC x A cap).toArray] w fun e w' => TyR e ∧ Below w.heap.size w w' := by
 obtain ⟨rfl, rfl⟩ := hk
 have HFIND := Lib.hid hin.find
 have HTY := Lib.hid hin.ty
 have HSUB := Lib.hid hin.sub
 have HOP := Lib.hid hin.opv
 have HNS := Lib.hid hin.nsv
 have HLN := Lib.hid hin.lnv
 have e0 : (ExC x A cap).toArray = #[.int .i64 12, .int .i64 x.n, .string x.name, .string x.field, .slice A 2 cap, .int .i64 ln] := by rw [← HOP.out, ← HNS.out, ← HLN.out]; rfl
 rw [e0]
 clear hin e0
 go_enter Tryd.func59, Tryd.ntmps59
 go_upto_region 2 with (fail)
 refine wp_name fun W hW => ?_
 obtain ⟨B, hB⟩ : ∃ B, B = w.heap.size := ⟨_, rfl⟩
 have hB1 : B + 1 = w.heap.size + 1 := by omega
 have hB2 : B + 2 = w.heap.size + 1 + 1 := by omega
 have hT : TyV W B x A cap := by
  have hh : W.heap[B]? = some (.cells (ExC x A cap).toArray 120) := by
   rw [hW.out, hB]
   have e1 : (ExC x A cap).toArray = #[.int .i64 12, .int .i64 x.n, .string x.name, .string x.field, .slice A 2 cap, .int .i64 ln] := by rw [← HOP.out, ← HNS.out, ← HLN.out]; rfl
   rw [e1]
   exact (heap_alloc_old _ _ (by simp; omega)).trans ((heap_alloc_old _ _ (by simp)).trans (heap_alloc_new _ _))
  refine ⟨by rw [hW.out, hB]; simp, fun j u hu => heap_cell j _ hh (by rw [List.getElem?_toArray]; exact hu), ?_, ?_, ?_, ?_, ?_, ?_⟩
  ·rw [hW.out, hB1]; go_simp
  ·rw [hW.out, hB1]; go_simp
  ·rw [hW.out, hB1]; go_simp
  ·rw [hW.out, hB1]; go_simp
  ·rw [hW.out, hB2]; go_simp
  ·rw [hW.out, hB2, HLN.out]; go_simp
 have HV := Lib.hid hT
 have hbel : Below w.heap.size w W := by rw [hW.out]; exact belowBy
 have HB := Lib.hid hbel
 rw [show w.heap.size + 1 + 1 = B + 2 by omega, show w.heap.size + 1 = B + 1 by omega, ← hB]
 have hwB : w.heap.size ≤ B := by omega
 clear hW hT hbel hB hB1 hB2
 have x0 : W.cell? ⟨B, 0, none⟩ = some (.int .i64 12) := by have := HV.out.xc 0 _ rfl; rwa [HOP.out] at this
 have x2 : W.cell? ⟨B, 2, none⟩ = some (.string x.name) := HV.out.xc 2 _ rfl
 have x3 : W.cell? ⟨B, 3, none⟩ = some (.string x.field) := HV.out.xc 3 _ rfl
 have x4 := HV.out.xc 4 _ rfl
 rw [HNS.out] at x4
 have x5 : W.cell? ⟨B, 5, none⟩ = some (.int .i64 ln) := by have := HV.out.xc 5 _ rfl; rwa [HLN.out] at this
 have r0 := HV.out.r0
 have r1 := HV.out.r1
 have q0 := HV.out.q0
 have q1 := HV.out.q1
 have b0 := HV.out.b0
 have b1 : W.cell? ⟨B + 2, 1, none⟩ = some (.int .i64 ln) := by have := HV.out.b1; rwa [HLN.out] at this
 have lt := HV.out.lt
 have lB : B < W.heap.size := by omega
 have lB1 : B + 1 < W.heap.size := by omega
 have hz := HB.out.size
 obtain ⟨b', off, y, As, ks, hA, hbl, hy, hya, hys, hrg⟩ := RowE.at (HSUB.out.below HB.out) (i := 0) (by rw [HNS.out]; decide)
 subst hA
 rw [Nat.zero_mul, Nat.add_zero] at hrg
 have HRG := Lib.hid hrg
 have HTX := Lib.hid (HTY.out y (List.mem_of_getElem? hy) W HB.out As ks hya hys)
 clear hy hya hys hrg
 go_wp2_with (refine wpList_load_mid rfl 120 _ rfl b' off rfl (ExC y As ks) _ HRG.out Tryd.underlying120 rfl expr_size ?_)
 refine HTX.out.mono ?_
 rintro e w1 ⟨⟨t1, a1, b1', rfl⟩, hb1⟩
 have HV1 := Lib.hid (HV.out.below hb1)
 have HB1 := Lib.hid (HB.out.trans (hb1.mono HB.out.size))
 clear x0 x2 x3 x4 x5 r0 r1 q0 q1 b0 b1 lt lB lB1 hz
 clear hb1 hbl HRG HTX HV HB
 have x0 : w1.cell? ⟨B, 0, none⟩ = some (.int .i64 12) := by have := HV1.out.xc 0 _ rfl; rwa [HOP.out] at this
 have x2 : w1.cell? ⟨B, 2, none⟩ = some (.string x.name) := HV1.out.xc 2 _ rfl
 have x3 : w1.cell? ⟨B, 3, none⟩ = some (.string x.field) := HV1.out.xc 3 _ rfl
 have x4 := HV1.out.xc 4 _ rfl
 rw [HNS.out] at x4
 have x5 : w1.cell? ⟨B, 5, none⟩ = some (.int .i64 ln) := by have := HV1.out.xc 5 _ rfl; rwa [HLN.out] at this
 have r0 := HV1.out.r0
 have r1 := HV1.out.r1
 have q0 := HV1.out.q0
 have q1 := HV1.out.q1
 have b0 := HV1.out.b0
 have b1 : w1.cell? ⟨B + 2, 1, none⟩ = some (.int .i64 ln) := by have := HV1.out.b1; rwa [HLN.out] at this
 have lt := HV1.out.lt
 have lB : B < w1.heap.size := by omega
 have lB1 : B + 1 < w1.heap.size := by omega
 have hz := HB1.out.size
 by_cases ha1 : a1 = 0
 ·subst ha1
  go_upto_region 31 with (fail)
  refine wp_name fun WQ hWQ => ?_
  have hbq : Below w1.heap.size w1 WQ := by rw [hWQ.out]; exact belowBy
  obtain ⟨E, hE⟩ : ∃ E, E = w1.heap.size := ⟨_, rfl⟩
  have eE0 : WQ.cell? ⟨E, 0, none⟩ = some (.int .i64 0) := by rw [hWQ.out, hE]; go_simp
  have eE1 : WQ.cell? ⟨E, 1, none⟩ = some (.int .i64 b1') := by rw [hWQ.out, hE]; go_simp
  have fE0 : WQ.frozen? ⟨E, 0, none⟩ = false := by rw [hWQ.out, hE]; go_simp
  have fE1 : WQ.frozen? ⟨E, 1, none⟩ = false := by rw [hWQ.out, hE]; go_simp
  have lE : E < WQ.heap.size := by rw [hWQ.out, hE]; simp
  have HVQ := Lib.hid (HV1.out.below hbq)
  have HBQ := Lib.hid (HB1.out.trans (hbq.mono HB1.out.size))
  have hEB : B + 2 < E := by have := HV1.out.lt; omega
  rw [← hE]
  clear x0 x2 x3 x4 x5 r0 r1 q0 q1 b0 b1 lt lB lB1 hz
  clear hWQ hbq hE HV1 HB1
  have x0 : WQ.cell? ⟨B, 0, none⟩ = some (.int .i64 12) := by have := HVQ.out.xc 0 _ rfl; rwa [HOP.out] at this
  have x2 : WQ.cell? ⟨B, 2, none⟩ = some (.string x.name) := HVQ.out.xc 2 _ rfl
  have x3 : WQ.cell? ⟨B, 3, none⟩ = some (.string x.field) := HVQ.out.xc 3 _ rfl
  have x4 := HVQ.out.xc 4 _ rfl
  rw [HNS.out] at x4
  have x5 : WQ.cell? ⟨B, 5, none⟩ = some (.int .i64 ln) := by have := HVQ.out.xc 5 _ rfl; rwa [HLN.out] at this
  have r0 := HVQ.out.r0
  have r1 := HVQ.out.r1
  have q0 := HVQ.out.q0
  have q1 := HVQ.out.q1
  have b0 := HVQ.out.b0
  have b1 : WQ.cell? ⟨B + 2, 1, none⟩ = some (.int .i64 ln) := by have := HVQ.out.b1; rwa [HLN.out] at this
  have lt := HVQ.out.lt
  have lB : B < WQ.heap.size := by omega
  have lB1 : B + 1 < WQ.heap.size := by omega
  have hz := HBQ.out.size
  obtain ⟨b', off, y, As, ks, hA, hbl, hy, hya, hys, hrg⟩ := RowE.at (HSUB.out.below HBQ.out) (i := 1) (by rw [HNS.out]; decide)
  injection hA with hA
  injection hA with hA1 hA2
  subst hA1 hA2
  rw [Nat.one_mul] at hrg
  have HRG := Lib.hid hrg
  have HTX := Lib.hid (HTY.out y (List.mem_of_getElem? hy) WQ HBQ.out As ks hya hys)
  clear hy hya hys hrg
  go_wp2_with (refine wpList_load_mid rfl 120 _ rfl b' (off + 6) rfl (ExC y As ks) _ HRG.out Tryd.underlying120 rfl expr_size ?_)
  refine HTX.out.mono ?_
  rintro e w2 ⟨⟨t2, a2, b2', rfl⟩, hb2⟩
  have g0 := (hb2.cell (p := ⟨E, 0, none⟩) lE).trans eE0
  have g1 := (hb2.cell (p := ⟨E, 1, none⟩) lE).trans eE1
  have p0 := (hb2.frozen (p := ⟨E, 0, none⟩) lE).trans fE0
  have p1 := (hb2.frozen (p := ⟨E, 1, none⟩) lE).trans fE1
  have lE2 : E < w2.heap.size := Nat.lt_of_lt_of_le lE hb2.size
  have hEw : w.heap.size ≤ E := by omega
  have HV2 := Lib.hid (HVQ.out.below hb2)
  have HB2 := Lib.hid (HBQ.out.trans (hb2.mono HBQ.out.size))
  clear x0 x2 x3 x4 x5 r0 r1 q0 q1 b0 b1 lt lB lB1 hz
  clear hb2 hbl HRG HTX HVQ HBQ eE0 eE1 fE0 fE1 lE
  have x0 : w2.cell? ⟨B, 0, none⟩ = some (.int .i64 12) := by have := HV2.out.xc 0 _ rfl; rwa [HOP.out] at this
  have x2 : w2.cell? ⟨B, 2, none⟩ = some (.string x.name) := HV2.out.xc 2 _ rfl
  have x3 : w2.cell? ⟨B, 3, none⟩ = some (.string x.field) := HV2.out.xc 3 _ rfl
  have x4 := HV2.out.xc 4 _ rfl
  rw [HNS.out] at x4
  have x5 : w2.cell? ⟨B, 5, none⟩ = some (.int .i64 ln) := by have := HV2.out.xc 5 _ rfl; rwa [HLN.out] at this
  have r0 := HV2.out.r0
  have r1 := HV2.out.r1
  have q0 := HV2.out.q0
  have q1 := HV2.out.q1
  have b0 := HV2.out.b0
  have b1 : w2.cell? ⟨B + 2, 1, none⟩ = some (.int .i64 ln) := by have := HV2.out.b1; rwa [HLN.out] at this
  have lt := HV2.out.lt
  have lB : B < w2.heap.size := by omega
  have lB1 : B + 1 < w2.heap.size := by omega
  have hz := HB2.out.size
  by_cases ha2 : a2 = 0
  ·subst ha2
   go_upto_region 36 with (fail)
   cases hc : (t1 != 1)
   ·cases hd : (t2 != 1)
    ·go_wp2
     refine bodyPost_ret (v := .tuple #[.int .i64 1, .agg #[.int .i64 0, .int .i64 0]]) (by simp [results, Tryd.results59, go_sem, r0, r1, q0, q1, lB1]) rfl ⟨⟨_, _, _, rfl⟩, by have hq := HB2.out; exact belowBy⟩
    ·go_wp2_with fail
     go_region
     all_goals
      go_wp2
      refine bodyPost_ret (v := .tuple #[.int .i64 0, .agg #[.int .i64 10, .int .i64 ln]]) (by simp [results, Tryd.results59, go_sem, r0, r1, q0, q1, lB1]) rfl ⟨⟨_, _, _, rfl⟩, by have hq := HB2.out; exact belowBy⟩
   ·go_wp2_with fail
    go_region
    all_goals
     go_wp2
     refine bodyPost_ret (v := .tuple #[.int .i64 0, .agg #[.int .i64 10, .int .i64 ln]]) (by simp [results, Tryd.results59, go_sem, r0, r1, q0, q1, lB1]) rfl ⟨⟨_, _, _, rfl⟩, by have hq := HB2.out; exact belowBy⟩
  ·have hab : (a2 != 0) = true := by simp [ha2]
   go_wp2_with fail
   go_region
   all_goals
    go_wp2
    refine bodyPost_ret (v := .tuple #[.int .i64 0, .agg #[.int .i64 a2, .int .i64 b2']]) (by simp [results, Tryd.results59, go_sem, r0, r1, q0, q1, lB1]) rfl ⟨⟨_, _, _, rfl⟩, by have hq := HB2.out; exact belowBy⟩
 ·have hab : (a1 != 0) = true := by simp [ha1]
  go_wp2_with fail
  go_region
  all_goals
   go_wp2
   refine bodyPost_ret (v := .tuple #[.int .i64 0, .agg #[.int .i64 a1, .int .i64 b1']]) (by simp [results, Tryd.results59, go_sem, r0, r1, q0, q1, lB1]) rfl ⟨⟨_, _, _, rfl⟩, by have hq := HB1.out; exact belowBy⟩

set_option maxRecDepth 100000 in
set_option maxHeartbeats 16000000 in
theorem type20_k8_13 (x : Ex) (w : World) (A vA : Option Addr) (vcap cap nv : Nat) (op ln : Int) (ns : Nat) (hin : TyIn x w A vA vcap cap nv op ln ns) (hk : op = 13 ∧ ns = 2) : Calls Tryd.prog 59 #[.slice vA nv vcap, .agg (ExC x A cap).toArray] w fun e w' => TyR e ∧ Below w.heap.size w w' := by
 obtain ⟨rfl, rfl⟩ := hk
 have HFIND := Lib.hid hin.find
 have HTY := Lib.hid hin.ty
 have HSUB := Lib.hid hin.sub
 have HOP := Lib.hid hin.opv
 have HNS := Lib.hid hin.nsv
 have HLN := Lib.hid hin.lnv
 have e0 : (ExC x A cap).toArray = #[.int .i64 13, .int .i64 x.n, .string x.name, .string x.field, .slice A 2 cap, .int .i64 ln] := by rw [← HOP.out, ← HNS.out, ← HLN.out]; rfl
 rw [e0]
 clear hin e0
 go_enter Tryd.func59, Tryd.ntmps59
 go_upto_region 2 with (fail)
 refine wp_name fun W hW => ?_
 obtain ⟨B, hB⟩ : ∃ B, B = w.heap.size := ⟨_, rfl⟩
 have hB1 : B + 1 = w.heap.size + 1 := by omega
 have hB2 : B + 2 = w.heap.size + 1 + 1 := by omega
 have hT : TyV W B x A cap := by
  have hh : W.heap[B]? = some (.cells (ExC x A cap).toArray 120) := by
   rw [hW.out, hB]
   have e1 : (ExC x A cap).toArray = #[.int .i64 13, .int .i64 x.n, .string x.name, .string x.field, .slice A 2 cap, .int .i64 ln] := by rw [← HOP.out, ← HNS.out, ← HLN.out]; rfl
   rw [e1]
   exact (heap_alloc_old _ _ (by simp; omega)).trans ((heap_alloc_old _ _ (by simp)).trans (heap_alloc_new _ _))
  refine ⟨by rw [hW.out, hB]; simp, fun j u hu => heap_cell j _ hh (by rw [List.getElem?_toArray]; exact hu), ?_, ?_, ?_, ?_, ?_, ?_⟩
  ·rw [hW.out, hB1]; go_simp
  ·rw [hW.out, hB1]; go_simp
  ·rw [hW.out, hB1]; go_simp
  ·rw [hW.out, hB1]; go_simp
  ·rw [hW.out, hB2]; go_simp
  ·rw [hW.out, hB2, HLN.out]; go_simp
 have HV := Lib.hid hT
 have hbel : Below w.heap.size w W := by rw [hW.out]; exact belowBy
 have HB := Lib.hid hbel
 rw [show w.heap.size + 1 + 1 = B + 2 by omega, show w.heap.size + 1 = B + 1 by omega, ← hB]
 have hwB : w.heap.size ≤ B := by omega
 clear hW hT hbel hB hB1 hB2
 have x0 : W.cell? ⟨B, 0, none⟩ = some (.int .i64 13) := by have := HV.out.xc 0 _ rfl; rwa [HOP.out] at this
 have x2 : W.cell? ⟨B, 2, none⟩ = some (.string x.name) := HV.out.xc 2 _ rfl
 have x3 : W.cell? ⟨B, 3, none⟩ = some (.string x.field) := HV.out.xc 3 _ rfl
 have x4 := HV.out.xc 4 _ rfl
 rw [HNS.out] at x4
 have x5 : W.cell? ⟨B, 5, none⟩ = some (.int .i64 ln) := by have := HV.out.xc 5 _ rfl; rwa [HLN.out] at this
 have r0 := HV.out.r0
 have r1 := HV.out.r1
 have q0 := HV.out.q0
 have q1 := HV.out.q1
 have b0 := HV.out.b0
 have b1 : W.cell? ⟨B + 2, 1, none⟩ = some (.int .i64 ln) := by have := HV.out.b1; rwa [HLN.out] at this
 have lt := HV.out.lt
 have lB : B < W.heap.size := by omega
 have lB1 : B + 1 < W.heap.size := by omega
 have hz := HB.out.size
 obtain ⟨b', off, y, As, ks, hA, hbl, hy, hya, hys, hrg⟩ := RowE.at (HSUB.out.below HB.out) (i := 0) (by rw [HNS.out]; decide)
 subst hA
 rw [Nat.zero_mul, Nat.add_zero] at hrg
 have HRG := Lib.hid hrg
 have HTX := Lib.hid (HTY.out y (List.mem_of_getElem? hy) W HB.out As ks hya hys)
 clear hy hya hys hrg
 go_wp2_with (refine wpList_load_mid rfl 120 _ rfl b' off rfl (ExC y As ks) _ HRG.out Tryd.underlying120 rfl expr_size ?_)
 refine HTX.out.mono ?_
 rintro e w1 ⟨⟨t1, a1, b1', rfl⟩, hb1⟩
 have HV1 := Lib.hid (HV.out.below hb1)
 have HB1 := Lib.hid (HB.out.trans (hb1.mono HB.out.size))
 clear x0 x2 x3 x4 x5 r0 r1 q0 q1 b0 b1 lt lB lB1 hz
 clear hb1 hbl HRG HTX HV HB
 have x0 : w1.cell? ⟨B, 0, none⟩ = some (.int .i64 13) := by have := HV1.out.xc 0 _ rfl; rwa [HOP.out] at this
 have x2 : w1.cell? ⟨B, 2, none⟩ = some (.string x.name) := HV1.out.xc 2 _ rfl
 have x3 : w1.cell? ⟨B, 3, none⟩ = some (.string x.field) := HV1.out.xc 3 _ rfl
 have x4 := HV1.out.xc 4 _ rfl
 rw [HNS.out] at x4
 have x5 : w1.cell? ⟨B, 5, none⟩ = some (.int .i64 ln) := by have := HV1.out.xc 5 _ rfl; rwa [HLN.out] at this
 have r0 := HV1.out.r0
 have r1 := HV1.out.r1
 have q0 := HV1.out.q0
 have q1 := HV1.out.q1
 have b0 := HV1.out.b0
 have b1 : w1.cell? ⟨B + 2, 1, none⟩ = some (.int .i64 ln) := by have := HV1.out.b1; rwa [HLN.out] at this
 have lt := HV1.out.lt
 have lB : B < w1.heap.size := by omega
 have lB1 : B + 1 < w1.heap.size := by omega
 have hz := HB1.out.size
 by_cases ha1 : a1 = 0
 ·subst ha1
  go_upto_region 31 with (fail)
  refine wp_name fun WQ hWQ => ?_
  have hbq : Below w1.heap.size w1 WQ := by rw [hWQ.out]; exact belowBy
  obtain ⟨E, hE⟩ : ∃ E, E = w1.heap.size := ⟨_, rfl⟩
  have eE0 : WQ.cell? ⟨E, 0, none⟩ = some (.int .i64 0) := by rw [hWQ.out, hE]; go_simp
  have eE1 : WQ.cell? ⟨E, 1, none⟩ = some (.int .i64 b1') := by rw [hWQ.out, hE]; go_simp
  have fE0 : WQ.frozen? ⟨E, 0, none⟩ = false := by rw [hWQ.out, hE]; go_simp
  have fE1 : WQ.frozen? ⟨E, 1, none⟩ = false := by rw [hWQ.out, hE]; go_simp
  have lE : E < WQ.heap.size := by rw [hWQ.out, hE]; simp
  have HVQ := Lib.hid (HV1.out.below hbq)
  have HBQ := Lib.hid (HB1.out.trans (hbq.mono HB1.out.size))
  have hEB : B + 2 < E := by have := HV1.out.lt; omega
  rw [← hE]
  clear x0 x2 x3 x4 x5 r0 r1 q0 q1 b0 b1 lt lB lB1 hz
  clear hWQ hbq hE HV1 HB1
  have x0 : WQ.cell? ⟨B, 0, none⟩ = some (.int .i64 13) := by have := HVQ.out.xc 0 _ rfl; rwa [HOP.out] at this
  have x2 : WQ.cell? ⟨B, 2, none⟩ = some (.string x.name) := HVQ.out.xc 2 _ rfl
  have x3 : WQ.cell? ⟨B, 3, none⟩ = some (.string x.field) := HVQ.out.xc 3 _ rfl
  have x4 := HVQ.out.xc 4 _ rfl
  rw [HNS.out] at x4
  have x5 : WQ.cell? ⟨B, 5, none⟩ = some (.int .i64 ln) := by have := HVQ.out.xc 5 _ rfl; rwa [HLN.out] at this
  have r0 := HVQ.out.r0
  have r1 := HVQ.out.r1
  have q0 := HVQ.out.q0
  have q1 := HVQ.out.q1
  have b0 := HVQ.out.b0
  have b1 : WQ.cell? ⟨B + 2, 1, none⟩ = some (.int .i64 ln) := by have := HVQ.out.b1; rwa [HLN.out] at this
  have lt := HVQ.out.lt
  have lB : B < WQ.heap.size := by omega
  have lB1 : B + 1 < WQ.heap.size := by omega
  have hz := HBQ.out.size
  obtain ⟨b', off, y, As, ks, hA, hbl, hy, hya, hys, hrg⟩ := RowE.at (HSUB.out.below HBQ.out) (i := 1) (by rw [HNS.out]; decide)
  injection hA with hA
  injection hA with hA1 hA2
  subst hA1 hA2
  rw [Nat.one_mul] at hrg
  have HRG := Lib.hid hrg
  have HTX := Lib.hid (HTY.out y (List.mem_of_getElem? hy) WQ HBQ.out As ks hya hys)
  clear hy hya hys hrg
  go_wp2_with (refine wpList_load_mid rfl 120 _ rfl b' (off + 6) rfl (ExC y As ks) _ HRG.out Tryd.underlying120 rfl expr_size ?_)
  refine HTX.out.mono ?_
  rintro e w2 ⟨⟨t2, a2, b2', rfl⟩, hb2⟩
  have g0 := (hb2.cell (p := ⟨E, 0, none⟩) lE).trans eE0
  have g1 := (hb2.cell (p := ⟨E, 1, none⟩) lE).trans eE1
  have p0 := (hb2.frozen (p := ⟨E, 0, none⟩) lE).trans fE0
  have p1 := (hb2.frozen (p := ⟨E, 1, none⟩) lE).trans fE1
  have lE2 : E < w2.heap.size := Nat.lt_of_lt_of_le lE hb2.size
  have hEw : w.heap.size ≤ E := by omega
  have HV2 := Lib.hid (HVQ.out.below hb2)
  have HB2 := Lib.hid (HBQ.out.trans (hb2.mono HBQ.out.size))
  clear x0 x2 x3 x4 x5 r0 r1 q0 q1 b0 b1 lt lB lB1 hz
  clear hb2 hbl HRG HTX HVQ HBQ eE0 eE1 fE0 fE1 lE
  have x0 : w2.cell? ⟨B, 0, none⟩ = some (.int .i64 13) := by have := HV2.out.xc 0 _ rfl; rwa [HOP.out] at this
  have x2 : w2.cell? ⟨B, 2, none⟩ = some (.string x.name) := HV2.out.xc 2 _ rfl
  have x3 : w2.cell? ⟨B, 3, none⟩ = some (.string x.field) := HV2.out.xc 3 _ rfl
  have x4 := HV2.out.xc 4 _ rfl
  rw [HNS.out] at x4
  have x5 : w2.cell? ⟨B, 5, none⟩ = some (.int .i64 ln) := by have := HV2.out.xc 5 _ rfl; rwa [HLN.out] at this
  have r0 := HV2.out.r0
  have r1 := HV2.out.r1
  have q0 := HV2.out.q0
  have q1 := HV2.out.q1
  have b0 := HV2.out.b0
  have b1 : w2.cell? ⟨B + 2, 1, none⟩ = some (.int .i64 ln) := by have := HV2.out.b1; rwa [HLN.out] at this
  have lt := HV2.out.lt
  have lB : B < w2.heap.size := by omega
  have lB1 : B + 1 < w2.heap.size := by omega
  have hz := HB2.out.size
  by_cases ha2 : a2 = 0
  ·subst ha2
   go_upto_region 36 with (fail)
   cases hc : (t2 != t1)
   ·go_wp2
    refine bodyPost_ret (v := .tuple #[.int .i64 2, .agg #[.int .i64 0, .int .i64 0]]) (by simp [results, Tryd.results59, go_sem, r0, r1, q0, q1, lB1]) rfl ⟨⟨_, _, _, rfl⟩, by have hq := HB2.out; exact belowBy⟩
   ·go_wp2_with fail
    go_region
    all_goals
     go_wp2
     refine bodyPost_ret (v := .tuple #[.int .i64 0, .agg #[.int .i64 10, .int .i64 ln]]) (by simp [results, Tryd.results59, go_sem, r0, r1, q0, q1, lB1]) rfl ⟨⟨_, _, _, rfl⟩, by have hq := HB2.out; exact belowBy⟩
  ·have hab : (a2 != 0) = true := by simp [ha2]
   go_wp2_with fail
   go_region
   all_goals
    go_wp2
    refine bodyPost_ret (v := .tuple #[.int .i64 0, .agg #[.int .i64 a2, .int .i64 b2']]) (by simp [results, Tryd.results59, go_sem, r0, r1, q0, q1, lB1]) rfl ⟨⟨_, _, _, rfl⟩, by have hq := HB2.out; exact belowBy⟩
 ·have hab : (a1 != 0) = true := by simp [ha1]
  go_wp2_with fail
  go_region
  all_goals
   go_wp2
   refine bodyPost_ret (v := .tuple #[.int .i64 0, .agg #[.int .i64 a1, .int .i64 b1']]) (by simp [results, Tryd.results59, go_sem, r0, r1, q0, q1, lB1]) rfl ⟨⟨_, _, _, rfl⟩, by have hq := HB1.out; exact belowBy⟩

set_option maxRecDepth 100000 in
set_option maxHeartbeats 16000000 in
theorem type20_k8_14 (x : Ex) (w : World) (A vA : Option Addr) (vcap cap nv : Nat) (op ln : Int) (ns : Nat) (hin : TyIn x w A vA vcap cap nv op ln ns) (hk : op = 14 ∧ ns = 2) : Calls Tryd.prog 59 #[.slice vA nv vcap, .agg (ExC x A cap).toArray] w fun e w' => TyR e ∧ Below w.heap.size w w' := by
 obtain ⟨rfl, rfl⟩ := hk
 have HFIND := Lib.hid hin.find
 have HTY := Lib.hid hin.ty
 have HSUB := Lib.hid hin.sub
 have HOP := Lib.hid hin.opv
 have HNS := Lib.hid hin.nsv
 have HLN := Lib.hid hin.lnv
 have e0 : (ExC x A cap).toArray = #[.int .i64 14, .int .i64 x.n, .string x.name, .string x.field, .slice A 2 cap, .int .i64 ln] := by rw [← HOP.out, ← HNS.out, ← HLN.out]; rfl
 rw [e0]
 clear hin e0
 go_enter Tryd.func59, Tryd.ntmps59
 go_upto_region 2 with (fail)
 refine wp_name fun W hW => ?_
 obtain ⟨B, hB⟩ : ∃ B, B = w.heap.size := ⟨_, rfl⟩
 have hB1 : B + 1 = w.heap.size + 1 := by omega
 have hB2 : B + 2 = w.heap.size + 1 + 1 := by omega
 have hT : TyV W B x A cap := by
  have hh : W.heap[B]? = some (.cells (ExC x A cap).toArray 120) := by
   rw [hW.out, hB]
   have e1 : (ExC x A cap).toArray = #[.int .i64 14, .int .i64 x.n, .string x.name, .string x.field, .slice A 2 cap, .int .i64 ln] := by rw [← HOP.out, ← HNS.out, ← HLN.out]; rfl
   rw [e1]
   exact (heap_alloc_old _ _ (by simp; omega)).trans ((heap_alloc_old _ _ (by simp)).trans (heap_alloc_new _ _))
  refine ⟨by rw [hW.out, hB]; simp, fun j u hu => heap_cell j _ hh (by rw [List.getElem?_toArray]; exact hu), ?_, ?_, ?_, ?_, ?_, ?_⟩
  ·rw [hW.out, hB1]; go_simp
  ·rw [hW.out, hB1]; go_simp
  ·rw [hW.out, hB1]; go_simp
  ·rw [hW.out, hB1]; go_simp
  ·rw [hW.out, hB2]; go_simp
  ·rw [hW.out, hB2, HLN.out]; go_simp
 have HV := Lib.hid hT
 have hbel : Below w.heap.size w W := by rw [hW.out]; exact belowBy
 have HB := Lib.hid hbel
 rw [show w.heap.size + 1 + 1 = B + 2 by omega, show w.heap.size + 1 = B + 1 by omega, ← hB]
 have hwB : w.heap.size ≤ B := by omega
 clear hW hT hbel hB hB1 hB2
 have x0 : W.cell? ⟨B, 0, none⟩ = some (.int .i64 14) := by have := HV.out.xc 0 _ rfl; rwa [HOP.out] at this
 have x2 : W.cell? ⟨B, 2, none⟩ = some (.string x.name) := HV.out.xc 2 _ rfl
 have x3 : W.cell? ⟨B, 3, none⟩ = some (.string x.field) := HV.out.xc 3 _ rfl
 have x4 := HV.out.xc 4 _ rfl
 rw [HNS.out] at x4
 have x5 : W.cell? ⟨B, 5, none⟩ = some (.int .i64 ln) := by have := HV.out.xc 5 _ rfl; rwa [HLN.out] at this
 have r0 := HV.out.r0
 have r1 := HV.out.r1
 have q0 := HV.out.q0
 have q1 := HV.out.q1
 have b0 := HV.out.b0
 have b1 : W.cell? ⟨B + 2, 1, none⟩ = some (.int .i64 ln) := by have := HV.out.b1; rwa [HLN.out] at this
 have lt := HV.out.lt
 have lB : B < W.heap.size := by omega
 have lB1 : B + 1 < W.heap.size := by omega
 have hz := HB.out.size
 obtain ⟨b', off, y, As, ks, hA, hbl, hy, hya, hys, hrg⟩ := RowE.at (HSUB.out.below HB.out) (i := 0) (by rw [HNS.out]; decide)
 subst hA
 rw [Nat.zero_mul, Nat.add_zero] at hrg
 have HRG := Lib.hid hrg
 have HTX := Lib.hid (HTY.out y (List.mem_of_getElem? hy) W HB.out As ks hya hys)
 clear hy hya hys hrg
 go_wp2_with (refine wpList_load_mid rfl 120 _ rfl b' off rfl (ExC y As ks) _ HRG.out Tryd.underlying120 rfl expr_size ?_)
 refine HTX.out.mono ?_
 rintro e w1 ⟨⟨t1, a1, b1', rfl⟩, hb1⟩
 have HV1 := Lib.hid (HV.out.below hb1)
 have HB1 := Lib.hid (HB.out.trans (hb1.mono HB.out.size))
 clear x0 x2 x3 x4 x5 r0 r1 q0 q1 b0 b1 lt lB lB1 hz
 clear hb1 hbl HRG HTX HV HB
 have x0 : w1.cell? ⟨B, 0, none⟩ = some (.int .i64 14) := by have := HV1.out.xc 0 _ rfl; rwa [HOP.out] at this
 have x2 : w1.cell? ⟨B, 2, none⟩ = some (.string x.name) := HV1.out.xc 2 _ rfl
 have x3 : w1.cell? ⟨B, 3, none⟩ = some (.string x.field) := HV1.out.xc 3 _ rfl
 have x4 := HV1.out.xc 4 _ rfl
 rw [HNS.out] at x4
 have x5 : w1.cell? ⟨B, 5, none⟩ = some (.int .i64 ln) := by have := HV1.out.xc 5 _ rfl; rwa [HLN.out] at this
 have r0 := HV1.out.r0
 have r1 := HV1.out.r1
 have q0 := HV1.out.q0
 have q1 := HV1.out.q1
 have b0 := HV1.out.b0
 have b1 : w1.cell? ⟨B + 2, 1, none⟩ = some (.int .i64 ln) := by have := HV1.out.b1; rwa [HLN.out] at this
 have lt := HV1.out.lt
 have lB : B < w1.heap.size := by omega
 have lB1 : B + 1 < w1.heap.size := by omega
 have hz := HB1.out.size
 by_cases ha1 : a1 = 0
 ·subst ha1
  go_upto_region 31 with (fail)
  refine wp_name fun WQ hWQ => ?_
  have hbq : Below w1.heap.size w1 WQ := by rw [hWQ.out]; exact belowBy
  obtain ⟨E, hE⟩ : ∃ E, E = w1.heap.size := ⟨_, rfl⟩
  have eE0 : WQ.cell? ⟨E, 0, none⟩ = some (.int .i64 0) := by rw [hWQ.out, hE]; go_simp
  have eE1 : WQ.cell? ⟨E, 1, none⟩ = some (.int .i64 b1') := by rw [hWQ.out, hE]; go_simp
  have fE0 : WQ.frozen? ⟨E, 0, none⟩ = false := by rw [hWQ.out, hE]; go_simp
  have fE1 : WQ.frozen? ⟨E, 1, none⟩ = false := by rw [hWQ.out, hE]; go_simp
  have lE : E < WQ.heap.size := by rw [hWQ.out, hE]; simp
  have HVQ := Lib.hid (HV1.out.below hbq)
  have HBQ := Lib.hid (HB1.out.trans (hbq.mono HB1.out.size))
  have hEB : B + 2 < E := by have := HV1.out.lt; omega
  rw [← hE]
  clear x0 x2 x3 x4 x5 r0 r1 q0 q1 b0 b1 lt lB lB1 hz
  clear hWQ hbq hE HV1 HB1
  have x0 : WQ.cell? ⟨B, 0, none⟩ = some (.int .i64 14) := by have := HVQ.out.xc 0 _ rfl; rwa [HOP.out] at this
  have x2 : WQ.cell? ⟨B, 2, none⟩ = some (.string x.name) := HVQ.out.xc 2 _ rfl
  have x3 : WQ.cell? ⟨B, 3, none⟩ = some (.string x.field) := HVQ.out.xc 3 _ rfl
  have x4 := HVQ.out.xc 4 _ rfl
  rw [HNS.out] at x4
  have x5 : WQ.cell? ⟨B, 5, none⟩ = some (.int .i64 ln) := by have := HVQ.out.xc 5 _ rfl; rwa [HLN.out] at this
  have r0 := HVQ.out.r0
  have r1 := HVQ.out.r1
  have q0 := HVQ.out.q0
  have q1 := HVQ.out.q1
  have b0 := HVQ.out.b0
  have b1 : WQ.cell? ⟨B + 2, 1, none⟩ = some (.int .i64 ln) := by have := HVQ.out.b1; rwa [HLN.out] at this
  have lt := HVQ.out.lt
  have lB : B < WQ.heap.size := by omega
  have lB1 : B + 1 < WQ.heap.size := by omega
  have hz := HBQ.out.size
  obtain ⟨b', off, y, As, ks, hA, hbl, hy, hya, hys, hrg⟩ := RowE.at (HSUB.out.below HBQ.out) (i := 1) (by rw [HNS.out]; decide)
  injection hA with hA
  injection hA with hA1 hA2
  subst hA1 hA2
  rw [Nat.one_mul] at hrg
  have HRG := Lib.hid hrg
  have HTX := Lib.hid (HTY.out y (List.mem_of_getElem? hy) WQ HBQ.out As ks hya hys)
  clear hy hya hys hrg
  go_wp2_with (refine wpList_load_mid rfl 120 _ rfl b' (off + 6) rfl (ExC y As ks) _ HRG.out Tryd.underlying120 rfl expr_size ?_)
  refine HTX.out.mono ?_
  rintro e w2 ⟨⟨t2, a2, b2', rfl⟩, hb2⟩
  have g0 := (hb2.cell (p := ⟨E, 0, none⟩) lE).trans eE0
  have g1 := (hb2.cell (p := ⟨E, 1, none⟩) lE).trans eE1
  have p0 := (hb2.frozen (p := ⟨E, 0, none⟩) lE).trans fE0
  have p1 := (hb2.frozen (p := ⟨E, 1, none⟩) lE).trans fE1
  have lE2 : E < w2.heap.size := Nat.lt_of_lt_of_le lE hb2.size
  have hEw : w.heap.size ≤ E := by omega
  have HV2 := Lib.hid (HVQ.out.below hb2)
  have HB2 := Lib.hid (HBQ.out.trans (hb2.mono HBQ.out.size))
  clear x0 x2 x3 x4 x5 r0 r1 q0 q1 b0 b1 lt lB lB1 hz
  clear hb2 hbl HRG HTX HVQ HBQ eE0 eE1 fE0 fE1 lE
  have x0 : w2.cell? ⟨B, 0, none⟩ = some (.int .i64 14) := by have := HV2.out.xc 0 _ rfl; rwa [HOP.out] at this
  have x2 : w2.cell? ⟨B, 2, none⟩ = some (.string x.name) := HV2.out.xc 2 _ rfl
  have x3 : w2.cell? ⟨B, 3, none⟩ = some (.string x.field) := HV2.out.xc 3 _ rfl
  have x4 := HV2.out.xc 4 _ rfl
  rw [HNS.out] at x4
  have x5 : w2.cell? ⟨B, 5, none⟩ = some (.int .i64 ln) := by have := HV2.out.xc 5 _ rfl; rwa [HLN.out] at this
  have r0 := HV2.out.r0
  have r1 := HV2.out.r1
  have q0 := HV2.out.q0
  have q1 := HV2.out.q1
  have b0 := HV2.out.b0
  have b1 : w2.cell? ⟨B + 2, 1, none⟩ = some (.int .i64 ln) := by have := HV2.out.b1; rwa [HLN.out] at this
  have lt := HV2.out.lt
  have lB : B < w2.heap.size := by omega
  have lB1 : B + 1 < w2.heap.size := by omega
  have hz := HB2.out.size
  by_cases ha2 : a2 = 0
  ·subst ha2
   go_upto_region 36 with (fail)
   cases hc : (t2 != t1)
   ·go_wp2
    refine bodyPost_ret (v := .tuple #[.int .i64 2, .agg #[.int .i64 0, .int .i64 0]]) (by simp [results, Tryd.results59, go_sem, r0, r1, q0, q1, lB1]) rfl ⟨⟨_, _, _, rfl⟩, by have hq := HB2.out; exact belowBy⟩
   ·go_wp2_with fail
    go_region
    all_goals
     go_wp2
     refine bodyPost_ret (v := .tuple #[.int .i64 0, .agg #[.int .i64 10, .int .i64 ln]]) (by simp [results, Tryd.results59, go_sem, r0, r1, q0, q1, lB1]) rfl ⟨⟨_, _, _, rfl⟩, by have hq := HB2.out; exact belowBy⟩
  ·have hab : (a2 != 0) = true := by simp [ha2]
   go_wp2_with fail
   go_region
   all_goals
    go_wp2
    refine bodyPost_ret (v := .tuple #[.int .i64 0, .agg #[.int .i64 a2, .int .i64 b2']]) (by simp [results, Tryd.results59, go_sem, r0, r1, q0, q1, lB1]) rfl ⟨⟨_, _, _, rfl⟩, by have hq := HB2.out; exact belowBy⟩
 ·have hab : (a1 != 0) = true := by simp [ha1]
  go_wp2_with fail
  go_region
  all_goals
   go_wp2
   refine bodyPost_ret (v := .tuple #[.int .i64 0, .agg #[.int .i64 a1, .int .i64 b1']]) (by simp [results, Tryd.results59, go_sem, r0, r1, q0, q1, lB1]) rfl ⟨⟨_, _, _, rfl⟩, by have hq := HB1.out; exact belowBy⟩

end Go.Proofs.YtknnhnefbbjcdaaDoor
