/- Merged: Layer 20, the reference: a type is told, the first kinds. PRINTED by wip/tool/mktype.py Layer 20, the reference: a type is told, an array's cell. PRINTED by wip/tool/mktype.py Layer 20, the reference: a type is told, of one. PRINTED by wip/tool/mktype.py -/
import Derived.Test.YtknnhnefbbjcdaaDoorLayB
import Derived.RegionTactic
namespace Go.Proofs.YtknnhnefbbjcdaaDoor
open Go.RowKit
set_option linter.unusedVariables false
set_option linter.unusedSimpArgs false
attribute [local go_sem] ite_max ite_min vite_max vite_min ext_cell ext_frozen extS_cell extS_frozen

set_option maxRecDepth 100000 in
set_option maxHeartbeats 16000000 in
theorem type20_k1 (x : Ex) (w : World) (A vA : Option Addr) (vcap cap nv : Nat) (op ln : Int) (ns : Nat) (hin : TyIn x w A vA vcap cap nv op ln ns) (hk : op = 1 ∧ ns = 0) : Calls Tryd.prog 59 #[.slice vA nv vcap, .agg (ExC x A cap).toArray] w fun e w' => TyR e ∧ Below w.heap.size w w' := by
 obtain ⟨rfl, rfl⟩ := hk
 have HFIND := Lib.hid hin.find
 have HTY := Lib.hid hin.ty
 have HSUB := Lib.hid hin.sub
 have HOP := Lib.hid hin.opv
 have HNS := Lib.hid hin.nsv
 have HLN := Lib.hid hin.lnv
 have e0 : (ExC x A cap).toArray = #[.int .i64 1, .int .i64 x.n, .string x.name, .string x.field, .slice A 0 cap, .int .i64 ln] := by rw [← HOP.out, ← HNS.out, ← HLN.out]; rfl
 rw [e0]
 clear hin e0
 go_enter Tryd.func59, Tryd.ntmps59
 go_upto_region 2 with (fail)
 refine wp_name fun W hW => ?_
 obtain ⟨B, hB⟩ : ∃ B, B = w.heap.size := ⟨_, rfl⟩
 have hB1 : B + 1 = w.heap.size + 1 := by omega
 have hB2 : B + 2 = w.heap.size + 1 + 1 := by omega
 have hT : TyV W B x A cap := by
  have hh : W.heap[B]? = some (.cells (ExC x A cap).toArray 120) := by
   rw [hW.out, hB]
   have e1 : (ExC x A cap).toArray = #[.int .i64 1, .int .i64 x.n, .string x.name, .string x.field, .slice A 0 cap, .int .i64 ln] := by rw [← HOP.out, ← HNS.out, ← HLN.out]; rfl
   rw [e1]
   exact (heap_alloc_old _ _ (by simp; omega)).trans ((heap_alloc_old _ _ (by simp)).trans (heap_alloc_new _ _))
  refine ⟨by rw [hW.out, hB]; simp, fun j u hu => heap_cell j _ hh (by rw [List.getElem?_toArray]; exact hu), ?_, ?_, ?_, ?_, ?_, ?_⟩
  ·rw [hW.out, hB1]; go_simp
  ·rw [hW.out, hB1]; go_simp
  ·rw [hW.out, hB1]; go_simp
  ·rw [hW.out, hB1]; go_simp
  ·rw [hW.out, hB2]; go_simp
  ·rw [hW.out, hB2, HLN.out]; go_simp
 have HV := Lib.hid hT
 have hbel : Below w.heap.size w W := by rw [hW.out]; exact belowBy
 have HB := Lib.hid hbel
 rw [show w.heap.size + 1 + 1 = B + 2 by omega, show w.heap.size + 1 = B + 1 by omega, ← hB]
 have hwB : w.heap.size ≤ B := by omega
 clear hW hT hbel hB hB1 hB2
 have x0 : W.cell? ⟨B, 0, none⟩ = some (.int .i64 1) := by have := HV.out.xc 0 _ rfl; rwa [HOP.out] at this
 have x2 : W.cell? ⟨B, 2, none⟩ = some (.string x.name) := HV.out.xc 2 _ rfl
 have x3 : W.cell? ⟨B, 3, none⟩ = some (.string x.field) := HV.out.xc 3 _ rfl
 have x4 := HV.out.xc 4 _ rfl
 rw [HNS.out] at x4
 have x5 : W.cell? ⟨B, 5, none⟩ = some (.int .i64 ln) := by have := HV.out.xc 5 _ rfl; rwa [HLN.out] at this
 have r0 := HV.out.r0
 have r1 := HV.out.r1
 have q0 := HV.out.q0
 have q1 := HV.out.q1
 have b0 := HV.out.b0
 have b1 : W.cell? ⟨B + 2, 1, none⟩ = some (.int .i64 ln) := by have := HV.out.b1; rwa [HLN.out] at this
 have lt := HV.out.lt
 have lB : B < W.heap.size := by omega
 have lB1 : B + 1 < W.heap.size := by omega
 have hz := HB.out.size
 go_wp2
 refine bodyPost_ret (v := .tuple #[.int .i64 1, .agg #[.int .i64 0, .int .i64 0]]) (by simp [results, Tryd.results59, go_sem, r0, r1, q0, q1, lB1]) rfl ⟨⟨_, _, _, rfl⟩, by have hq := HB.out; exact belowBy⟩

set_option maxRecDepth 100000 in
set_option maxHeartbeats 16000000 in
theorem type20_k2 (x : Ex) (w : World) (A vA : Option Addr) (vcap cap nv : Nat) (op ln : Int) (ns : Nat) (hin : TyIn x w A vA vcap cap nv op ln ns) (hk : op = 2 ∧ ns = 0) : Calls Tryd.prog 59 #[.slice vA nv vcap, .agg (ExC x A cap).toArray] w fun e w' => TyR e ∧ Below w.heap.size w w' := by
 obtain ⟨rfl, rfl⟩ := hk
 have HFIND := Lib.hid hin.find
 have HTY := Lib.hid hin.ty
 have HSUB := Lib.hid hin.sub
 have HOP := Lib.hid hin.opv
 have HNS := Lib.hid hin.nsv
 have HLN := Lib.hid hin.lnv
 have e0 : (ExC x A cap).toArray = #[.int .i64 2, .int .i64 x.n, .string x.name, .string x.field, .slice A 0 cap, .int .i64 ln] := by rw [← HOP.out, ← HNS.out, ← HLN.out]; rfl
 rw [e0]
 clear hin e0
 go_enter Tryd.func59, Tryd.ntmps59
 go_upto_region 2 with (fail)
 refine wp_name fun W hW => ?_
 obtain ⟨B, hB⟩ : ∃ B, B = w.heap.size := ⟨_, rfl⟩
 have hB1 : B + 1 = w.heap.size + 1 := by omega
 have hB2 : B + 2 = w.heap.size + 1 + 1 := by omega
 have hT : TyV W B x A cap := by
  have hh : W.heap[B]? = some (.cells (ExC x A cap).toArray 120) := by
   rw [hW.out, hB]
   have e1 : (ExC x A cap).toArray = #[.int .i64 2, .int .i64 x.n, .string x.name, .string x.field, .slice A 0 cap, .int .i64 ln] := by rw [← HOP.out, ← HNS.out, ← HLN.out]; rfl
   rw [e1]
   exact (heap_alloc_old _ _ (by simp; omega)).trans ((heap_alloc_old _ _ (by simp)).trans (heap_alloc_new _ _))
  refine ⟨by rw [hW.out, hB]; simp, fun j u hu => heap_cell j _ hh (by rw [List.getElem?_toArray]; exact hu), ?_, ?_, ?_, ?_, ?_, ?_⟩
  ·rw [hW.out, hB1]; go_simp
  ·rw [hW.out, hB1]; go_simp
  ·rw [hW.out, hB1]; go_simp
  ·rw [hW.out, hB1]; go_simp
  ·rw [hW.out, hB2]; go_simp
  ·rw [hW.out, hB2, HLN.out]; go_simp
 have HV := Lib.hid hT
 have hbel : Below w.heap.size w W := by rw [hW.out]; exact belowBy
 have HB := Lib.hid hbel
 rw [show w.heap.size + 1 + 1 = B + 2 by omega, show w.heap.size + 1 = B + 1 by omega, ← hB]
 have hwB : w.heap.size ≤ B := by omega
 clear hW hT hbel hB hB1 hB2
 have x0 : W.cell? ⟨B, 0, none⟩ = some (.int .i64 2) := by have := HV.out.xc 0 _ rfl; rwa [HOP.out] at this
 have x2 : W.cell? ⟨B, 2, none⟩ = some (.string x.name) := HV.out.xc 2 _ rfl
 have x3 : W.cell? ⟨B, 3, none⟩ = some (.string x.field) := HV.out.xc 3 _ rfl
 have x4 := HV.out.xc 4 _ rfl
 rw [HNS.out] at x4
 have x5 : W.cell? ⟨B, 5, none⟩ = some (.int .i64 ln) := by have := HV.out.xc 5 _ rfl; rwa [HLN.out] at this
 have r0 := HV.out.r0
 have r1 := HV.out.r1
 have q0 := HV.out.q0
 have q1 := HV.out.q1
 have b0 := HV.out.b0
 have b1 : W.cell? ⟨B + 2, 1, none⟩ = some (.int .i64 ln) := by have := HV.out.b1; rwa [HLN.out] at this
 have lt := HV.out.lt
 have lB : B < W.heap.size := by omega
 have lB1 : B + 1 < W.heap.size := by omega
 have hz := HB.out.size
 go_wp2
 refine bodyPost_ret (v := .tuple #[.int .i64 2, .agg #[.int .i64 0, .int .i64 0]]) (by simp [results, Tryd.results59, go_sem, r0, r1, q0, q1, lB1]) rfl ⟨⟨_, _, _, rfl⟩, by have hq := HB.out; exact belowBy⟩

set_option maxRecDepth 100000 in
set_option maxHeartbeats 16000000 in
theorem type20_k3 (x : Ex) (w : World) (A vA : Option Addr) (vcap cap nv : Nat) (op ln : Int) (ns : Nat) (hin : TyIn x w A vA vcap cap nv op ln ns) (hk : op = 3 ∧ ns = 0) : Calls Tryd.prog 59 #[.slice vA nv vcap, .agg (ExC x A cap).toArray] w fun e w' => TyR e ∧ Below w.heap.size w w' := by
 obtain ⟨rfl, rfl⟩ := hk
 have HFIND := Lib.hid hin.find
 have HTY := Lib.hid hin.ty
 have HSUB := Lib.hid hin.sub
 have HOP := Lib.hid hin.opv
 have HNS := Lib.hid hin.nsv
 have HLN := Lib.hid hin.lnv
 have e0 : (ExC x A cap).toArray = #[.int .i64 3, .int .i64 x.n, .string x.name, .string x.field, .slice A 0 cap, .int .i64 ln] := by rw [← HOP.out, ← HNS.out, ← HLN.out]; rfl
 rw [e0]
 clear hin e0
 go_enter Tryd.func59, Tryd.ntmps59
 go_upto_region 2 with (fail)
 refine wp_name fun W hW => ?_
 obtain ⟨B, hB⟩ : ∃ B, B = w.heap.size := ⟨_, rfl⟩
 have hB1 : B + 1 = w.heap.size + 1 := by omega
 have hB2 : B + 2 = w.heap.size + 1 + 1 := by omega
 have hT : TyV W B x A cap := by
  have hh : W.heap[B]? = some (.cells (ExC x A cap).toArray 120) := by
   rw [hW.out, hB]
   have e1 : (ExC x A cap).toArray = #[.int .i64 3, .int .i64 x.n, .string x.name, .string x.field, .slice A 0 cap, .int .i64 ln] := by rw [← HOP.out, ← HNS.out, ← HLN.out]; rfl
   rw [e1]
   exact (heap_alloc_old _ _ (by simp; omega)).trans ((heap_alloc_old _ _ (by simp)).trans (heap_alloc_new _ _))
  refine ⟨by rw [hW.out, hB]; simp, fun j u hu => heap_cell j _ hh (by rw [List.getElem?_toArray]; exact hu), ?_, ?_, ?_, ?_, ?_, ?_⟩
  ·rw [hW.out, hB1]; go_simp
  ·rw [hW.out, hB1]; go_simp
  ·rw [hW.out, hB1]; go_simp
  ·rw [hW.out, hB1]; go_simp
  ·rw [hW.out, hB2]; go_simp
  ·rw [hW.out, hB2, HLN.out]; go_simp
 have HV := Lib.hid hT
 have hbel : Below w.heap.size w W := by rw [hW.out]; exact belowBy
 have HB := Lib.hid hbel
 rw [show w.heap.size + 1 + 1 = B + 2 by omega, show w.heap.size + 1 = B + 1 by omega, ← hB]
 have hwB : w.heap.size ≤ B := by omega
 clear hW hT hbel hB hB1 hB2
 have x0 : W.cell? ⟨B, 0, none⟩ = some (.int .i64 3) := by have := HV.out.xc 0 _ rfl; rwa [HOP.out] at this
 have x2 : W.cell? ⟨B, 2, none⟩ = some (.string x.name) := HV.out.xc 2 _ rfl
 have x3 : W.cell? ⟨B, 3, none⟩ = some (.string x.field) := HV.out.xc 3 _ rfl
 have x4 := HV.out.xc 4 _ rfl
 rw [HNS.out] at x4
 have x5 : W.cell? ⟨B, 5, none⟩ = some (.int .i64 ln) := by have := HV.out.xc 5 _ rfl; rwa [HLN.out] at this
 have r0 := HV.out.r0
 have r1 := HV.out.r1
 have q0 := HV.out.q0
 have q1 := HV.out.q1
 have b0 := HV.out.b0
 have b1 : W.cell? ⟨B + 2, 1, none⟩ = some (.int .i64 ln) := by have := HV.out.b1; rwa [HLN.out] at this
 have lt := HV.out.lt
 have lB : B < W.heap.size := by omega
 have lB1 : B + 1 < W.heap.size := by omega
 have hz := HB.out.size
 go_wp2_with fail
 refine (HFIND.out _ HB.out).mono ?_
 rintro e w1 ⟨⟨v, ok, rfl⟩, hb1⟩
 have HV1 := Lib.hid (HV.out.below hb1)
 have HB1 := Lib.hid (HB.out.trans (hb1.mono HB.out.size))
 clear x0 x2 x3 x4 x5 r0 r1 q0 q1 b0 b1 lt lB lB1 hz
 clear hb1
 go_upto_region 10 with (refine wpList_store_new rfl 45 _ _ rfl w1 _ v.cells.toArray rfl rfl rfl var_size8 rfl (var_one8 v) ?_)
 refine wp_name fun W2 hW2 => ?_
 obtain ⟨V, hV⟩ : ∃ V, V = w1.heap.size := ⟨_, rfl⟩
 have hh : W2.heap[V]? = some (.cells v.cells.toArray 45) := by rw [hW2.out, hV]; exact heap_alloc_new _ _
 have hb2 : Below w1.heap.size w1 W2 := by rw [hW2.out]; exact belowBy
 rw [← hV]
 obtain ⟨ty, hty⟩ : ∃ t, v.type = t := ⟨_, rfl⟩
 obtain ⟨ar, har⟩ : ∃ t, v.arr = t := ⟨_, rfl⟩
 have v1 : W2.cell? ⟨V, 1, none⟩ = some (.int .i64 ty) := by rw [← hty]; exact heap_cell 1 _ hh rfl
 have v3 : W2.cell? ⟨V, 3, none⟩ = some (.bool ar) := by rw [← har]; exact heap_cell 3 _ hh rfl
 have lV : V < W2.heap.size := (Array.getElem?_eq_some_iff.1 hh).1
 have HV2 := Lib.hid (HV1.out.below hb2)
 have HB2 := Lib.hid (HB1.out.trans (hb2.mono HB1.out.size))
 clear hb2 hh hW2 hV hty har HV HB HV1 HB1
 have x0 : W2.cell? ⟨B, 0, none⟩ = some (.int .i64 3) := by have := HV2.out.xc 0 _ rfl; rwa [HOP.out] at this
 have x2 : W2.cell? ⟨B, 2, none⟩ = some (.string x.name) := HV2.out.xc 2 _ rfl
 have x3 : W2.cell? ⟨B, 3, none⟩ = some (.string x.field) := HV2.out.xc 3 _ rfl
 have x4 := HV2.out.xc 4 _ rfl
 rw [HNS.out] at x4
 have x5 : W2.cell? ⟨B, 5, none⟩ = some (.int .i64 ln) := by have := HV2.out.xc 5 _ rfl; rwa [HLN.out] at this
 have r0 := HV2.out.r0
 have r1 := HV2.out.r1
 have q0 := HV2.out.q0
 have q1 := HV2.out.q1
 have b0 := HV2.out.b0
 have b1 : W2.cell? ⟨B + 2, 1, none⟩ = some (.int .i64 ln) := by have := HV2.out.b1; rwa [HLN.out] at this
 have lt := HV2.out.lt
 have lB : B < W2.heap.size := by omega
 have lB1 : B + 1 < W2.heap.size := by omega
 have hz := HB2.out.size
 cases ok
 ·go_wp2_with fail
  go_region
  all_goals
   go_wp2
   refine bodyPost_ret (v := .tuple #[.int .i64 0, .agg #[.int .i64 9, .int .i64 ln]]) (by simp [results, Tryd.results59, go_sem, r0, r1, q0, q1, lB1]) rfl ⟨⟨_, _, _, rfl⟩, by have hq := HB2.out; exact belowBy⟩
 ·cases ar
  ·by_cases h2 : 2 < ty
   ·go_wp2_with fail
    go_region
    all_goals
     go_wp2
     refine bodyPost_ret (v := .tuple #[.int .i64 0, .agg #[.int .i64 10, .int .i64 ln]]) (by simp [results, Tryd.results59, go_sem, r0, r1, q0, q1, lB1]) rfl ⟨⟨_, _, _, rfl⟩, by have hq := HB2.out; exact belowBy⟩
   ·go_wp2
    refine bodyPost_ret (v := .tuple #[.int .i64 ty, .agg #[.int .i64 0, .int .i64 0]]) (by simp [results, Tryd.results59, go_sem, r0, r1, q0, q1, lB1]) rfl ⟨⟨_, _, _, rfl⟩, by have hq := HB2.out; exact belowBy⟩
  ·go_wp2_with fail
   go_region
   all_goals
    go_wp2
    refine bodyPost_ret (v := .tuple #[.int .i64 0, .agg #[.int .i64 10, .int .i64 ln]]) (by simp [results, Tryd.results59, go_sem, r0, r1, q0, q1, lB1]) rfl ⟨⟨_, _, _, rfl⟩, by have hq := HB2.out; exact belowBy⟩

set_option maxRecDepth 100000 in
set_option maxHeartbeats 16000000 in
theorem type20_k5 (x : Ex) (w : World) (A vA : Option Addr) (vcap cap nv : Nat) (op ln : Int) (ns : Nat) (hin : TyIn x w A vA vcap cap nv op ln ns) (hk : op = 5 ∧ ns = 0) : Calls Tryd.prog 59 #[.slice vA nv vcap, .agg (ExC x A cap).toArray] w fun e w' => TyR e ∧ Below w.heap.size w w' := by
 obtain ⟨rfl, rfl⟩ := hk
 have HFIND := Lib.hid hin.find
 have HTY := Lib.hid hin.ty
 have HSUB := Lib.hid hin.sub
 have HOP := Lib.hid hin.opv
 have HNS := Lib.hid hin.nsv
 have HLN := Lib.hid hin.lnv
 have e0 : (ExC x A cap).toArray = #[.int .i64 5, .int .i64 x.n, .string x.name, .string x.field, .slice A 0 cap, .int .i64 ln] := by rw [← HOP.out, ← HNS.out, ← HLN.out]; rfl
 rw [e0]
 clear hin e0
 go_enter Tryd.func59, Tryd.ntmps59
 go_upto_region 2 with (fail)
 refine wp_name fun W hW => ?_
 obtain ⟨B, hB⟩ : ∃ B, B = w.heap.size := ⟨_, rfl⟩
 have hB1 : B + 1 = w.heap.size + 1 := by omega
 have hB2 : B + 2 = w.heap.size + 1 + 1 := by omega
 have hT : TyV W B x A cap := by
  have hh : W.heap[B]? = some (.cells (ExC x A cap).toArray 120) := by
   rw [hW.out, hB]
   have e1 : (ExC x A cap).toArray = #[.int .i64 5, .int .i64 x.n, .string x.name, .string x.field, .slice A 0 cap, .int .i64 ln] := by rw [← HOP.out, ← HNS.out, ← HLN.out]; rfl
   rw [e1]
   exact (heap_alloc_old _ _ (by simp; omega)).trans ((heap_alloc_old _ _ (by simp)).trans (heap_alloc_new _ _))
  refine ⟨by rw [hW.out, hB]; simp, fun j u hu => heap_cell j _ hh (by rw [List.getElem?_toArray]; exact hu), ?_, ?_, ?_, ?_, ?_, ?_⟩
  ·rw [hW.out, hB1]; go_simp
  ·rw [hW.out, hB1]; go_simp
  ·rw [hW.out, hB1]; go_simp
  ·rw [hW.out, hB1]; go_simp
  ·rw [hW.out, hB2]; go_simp
  ·rw [hW.out, hB2, HLN.out]; go_simp
 have HV := Lib.hid hT
 have hbel : Below w.heap.size w W := by rw [hW.out]; exact belowBy
 have HB := Lib.hid hbel
 rw [show w.heap.size + 1 + 1 = B + 2 by omega, show w.heap.size + 1 = B + 1 by omega, ← hB]
 have hwB : w.heap.size ≤ B := by omega
 clear hW hT hbel hB hB1 hB2
 have x0 : W.cell? ⟨B, 0, none⟩ = some (.int .i64 5) := by have := HV.out.xc 0 _ rfl; rwa [HOP.out] at this
 have x2 : W.cell? ⟨B, 2, none⟩ = some (.string x.name) := HV.out.xc 2 _ rfl
 have x3 : W.cell? ⟨B, 3, none⟩ = some (.string x.field) := HV.out.xc 3 _ rfl
 have x4 := HV.out.xc 4 _ rfl
 rw [HNS.out] at x4
 have x5 : W.cell? ⟨B, 5, none⟩ = some (.int .i64 ln) := by have := HV.out.xc 5 _ rfl; rwa [HLN.out] at this
 have r0 := HV.out.r0
 have r1 := HV.out.r1
 have q0 := HV.out.q0
 have q1 := HV.out.q1
 have b0 := HV.out.b0
 have b1 : W.cell? ⟨B + 2, 1, none⟩ = some (.int .i64 ln) := by have := HV.out.b1; rwa [HLN.out] at this
 have lt := HV.out.lt
 have lB : B < W.heap.size := by omega
 have lB1 : B + 1 < W.heap.size := by omega
 have hz := HB.out.size
 go_wp2_with fail
 refine (HFIND.out _ HB.out).mono ?_
 rintro e w1 ⟨⟨v, ok, rfl⟩, hb1⟩
 have HV1 := Lib.hid (HV.out.below hb1)
 have HB1 := Lib.hid (HB.out.trans (hb1.mono HB.out.size))
 clear x0 x2 x3 x4 x5 r0 r1 q0 q1 b0 b1 lt lB lB1 hz
 clear hb1
 go_upto_region 10 with (refine wpList_store_new rfl 45 _ _ rfl w1 _ v.cells.toArray rfl rfl rfl var_size8 rfl (var_one8 v) ?_)
 refine wp_name fun W2 hW2 => ?_
 obtain ⟨V, hV⟩ : ∃ V, V = w1.heap.size := ⟨_, rfl⟩
 have hh : W2.heap[V]? = some (.cells v.cells.toArray 45) := by rw [hW2.out, hV]; exact heap_alloc_new _ _
 have hb2 : Below w1.heap.size w1 W2 := by rw [hW2.out]; exact belowBy
 rw [← hV]
 obtain ⟨ty, hty⟩ : ∃ t, v.type = t := ⟨_, rfl⟩
 obtain ⟨ar, har⟩ : ∃ t, v.arr = t := ⟨_, rfl⟩
 have v1 : W2.cell? ⟨V, 1, none⟩ = some (.int .i64 ty) := by rw [← hty]; exact heap_cell 1 _ hh rfl
 have v3 : W2.cell? ⟨V, 3, none⟩ = some (.bool ar) := by rw [← har]; exact heap_cell 3 _ hh rfl
 have lV : V < W2.heap.size := (Array.getElem?_eq_some_iff.1 hh).1
 have HV2 := Lib.hid (HV1.out.below hb2)
 have HB2 := Lib.hid (HB1.out.trans (hb2.mono HB1.out.size))
 clear hb2 hh hW2 hV hty har HV HB HV1 HB1
 have x0 : W2.cell? ⟨B, 0, none⟩ = some (.int .i64 5) := by have := HV2.out.xc 0 _ rfl; rwa [HOP.out] at this
 have x2 : W2.cell? ⟨B, 2, none⟩ = some (.string x.name) := HV2.out.xc 2 _ rfl
 have x3 : W2.cell? ⟨B, 3, none⟩ = some (.string x.field) := HV2.out.xc 3 _ rfl
 have x4 := HV2.out.xc 4 _ rfl
 rw [HNS.out] at x4
 have x5 : W2.cell? ⟨B, 5, none⟩ = some (.int .i64 ln) := by have := HV2.out.xc 5 _ rfl; rwa [HLN.out] at this
 have r0 := HV2.out.r0
 have r1 := HV2.out.r1
 have q0 := HV2.out.q0
 have q1 := HV2.out.q1
 have b0 := HV2.out.b0
 have b1 : W2.cell? ⟨B + 2, 1, none⟩ = some (.int .i64 ln) := by have := HV2.out.b1; rwa [HLN.out] at this
 have lt := HV2.out.lt
 have lB : B < W2.heap.size := by omega
 have lB1 : B + 1 < W2.heap.size := by omega
 have hz := HB2.out.size
 cases ok
 ·go_wp2_with fail
  go_region
  all_goals
   go_wp2
   refine bodyPost_ret (v := .tuple #[.int .i64 0, .agg #[.int .i64 9, .int .i64 ln]]) (by simp [results, Tryd.results59, go_sem, r0, r1, q0, q1, lB1]) rfl ⟨⟨_, _, _, rfl⟩, by have hq := HB2.out; exact belowBy⟩
 ·by_cases h2 : ty ≤ 2
  ·go_wp2_with fail
   go_region
   all_goals
    go_wp2
    refine bodyPost_ret (v := .tuple #[.int .i64 0, .agg #[.int .i64 10, .int .i64 ln]]) (by simp [results, Tryd.results59, go_sem, r0, r1, q0, q1, lB1]) rfl ⟨⟨_, _, _, rfl⟩, by have hq := HB2.out; exact belowBy⟩
  ·go_wp2_with fail
   refine (pin20_any ty x.field _).mono ?_
   rintro e w3 ⟨⟨s, t, i, b, rfl⟩, hb3⟩
   have HV3 := Lib.hid (HV2.out.below hb3)
   have HB3 := Lib.hid (HB2.out.trans (hb3.mono HB2.out.size))
   clear x0 x2 x3 x4 x5 r0 r1 q0 q1 b0 b1 lt lB lB1 hz
   clear hb3 v1 v3 lV HV2 HB2
   have x0 : w3.cell? ⟨B, 0, none⟩ = some (.int .i64 5) := by have := HV3.out.xc 0 _ rfl; rwa [HOP.out] at this
   have x2 : w3.cell? ⟨B, 2, none⟩ = some (.string x.name) := HV3.out.xc 2 _ rfl
   have x3 : w3.cell? ⟨B, 3, none⟩ = some (.string x.field) := HV3.out.xc 3 _ rfl
   have x4 := HV3.out.xc 4 _ rfl
   rw [HNS.out] at x4
   have x5 : w3.cell? ⟨B, 5, none⟩ = some (.int .i64 ln) := by have := HV3.out.xc 5 _ rfl; rwa [HLN.out] at this
   have r0 := HV3.out.r0
   have r1 := HV3.out.r1
   have q0 := HV3.out.q0
   have q1 := HV3.out.q1
   have b0 := HV3.out.b0
   have b1 : w3.cell? ⟨B + 2, 1, none⟩ = some (.int .i64 ln) := by have := HV3.out.b1; rwa [HLN.out] at this
   have lt := HV3.out.lt
   have lB : B < w3.heap.size := by omega
   have lB1 : B + 1 < w3.heap.size := by omega
   have hz := HB3.out.size
   cases b
   ·go_wp2_with fail
    go_region
    all_goals
     go_wp2
     refine bodyPost_ret (v := .tuple #[.int .i64 0, .agg #[.int .i64 9, .int .i64 ln]]) (by simp [results, Tryd.results59, go_sem, r0, r1, q0, q1, lB1]) rfl ⟨⟨_, _, _, rfl⟩, by have hq := HB3.out; exact belowBy⟩
   ·go_wp2
    refine bodyPost_ret (v := .tuple #[.int .i64 t, .agg #[.int .i64 0, .int .i64 0]]) (by simp [results, Tryd.results59, go_sem, r0, r1, q0, q1, lB1]) rfl ⟨⟨_, _, _, rfl⟩, by have hq := HB3.out; exact belowBy⟩

end Go.Proofs.YtknnhnefbbjcdaaDoor

namespace Go.Proofs.YtknnhnefbbjcdaaDoor
open Go.RowKit
set_option linter.unusedVariables false
set_option linter.unusedSimpArgs false
attribute [local go_sem] ite_max ite_min vite_max vite_min ext_cell ext_frozen extS_cell extS_frozen

set_option maxRecDepth 100000 in
set_option maxHeartbeats 16000000 in
theorem type20_k4 (x : Ex) (w : World) (A vA : Option Addr) (vcap cap nv : Nat) (op ln : Int) (ns : Nat) (hin : TyIn x w A vA vcap cap nv op ln ns) (hk : op = 4 ∧ ns = 1) : Calls Tryd.prog 59 #[.slice vA nv vcap, .agg (ExC x A cap).toArray] w fun e w' => TyR e ∧ Below w.heap.size w w' := by
 obtain ⟨rfl, rfl⟩ := hk
 have HFIND := Lib.hid hin.find
 have HTY := Lib.hid hin.ty
 have HSUB := Lib.hid hin.sub
 have HOP := Lib.hid hin.opv
 have HNS := Lib.hid hin.nsv
 have HLN := Lib.hid hin.lnv
 have e0 : (ExC x A cap).toArray = #[.int .i64 4, .int .i64 x.n, .string x.name, .string x.field, .slice A 1 cap, .int .i64 ln] := by rw [← HOP.out, ← HNS.out, ← HLN.out]; rfl
 rw [e0]
 clear hin e0
 go_enter Tryd.func59, Tryd.ntmps59
 go_upto_region 2 with (fail)
 refine wp_name fun W hW => ?_
 obtain ⟨B, hB⟩ : ∃ B, B = w.heap.size := ⟨_, rfl⟩
 have hB1 : B + 1 = w.heap.size + 1 := by omega
 have hB2 : B + 2 = w.heap.size + 1 + 1 := by omega
 have hT : TyV W B x A cap := by
  have hh : W.heap[B]? = some (.cells (ExC x A cap).toArray 120) := by
   rw [hW.out, hB]
   have e1 : (ExC x A cap).toArray = #[.int .i64 4, .int .i64 x.n, .string x.name, .string x.field, .slice A 1 cap, .int .i64 ln] := by rw [← HOP.out, ← HNS.out, ← HLN.out]; rfl
   rw [e1]
   exact (heap_alloc_old _ _ (by simp; omega)).trans ((heap_alloc_old _ _ (by simp)).trans (heap_alloc_new _ _))
  refine ⟨by rw [hW.out, hB]; simp, fun j u hu => heap_cell j _ hh (by rw [List.getElem?_toArray]; exact hu), ?_, ?_, ?_, ?_, ?_, ?_⟩
  ·rw [hW.out, hB1]; go_simp
  ·rw [hW.out, hB1]; go_simp
  ·rw [hW.out, hB1]; go_simp
  ·rw [hW.out, hB1]; go_simp
  ·rw [hW.out, hB2]; go_simp
  ·rw [hW.out, hB2, HLN.out]; go_simp
 have HV := Lib.hid hT
 have hbel : Below w.heap.size w W := by rw [hW.out]; exact belowBy
 have HB := Lib.hid hbel
 rw [show w.heap.size + 1 + 1 = B + 2 by omega, show w.heap.size + 1 = B + 1 by omega, ← hB]
 have hwB : w.heap.size ≤ B := by omega
 clear hW hT hbel hB hB1 hB2
 have x0 : W.cell? ⟨B, 0, none⟩ = some (.int .i64 4) := by have := HV.out.xc 0 _ rfl; rwa [HOP.out] at this
 have x2 : W.cell? ⟨B, 2, none⟩ = some (.string x.name) := HV.out.xc 2 _ rfl
 have x3 : W.cell? ⟨B, 3, none⟩ = some (.string x.field) := HV.out.xc 3 _ rfl
 have x4 := HV.out.xc 4 _ rfl
 rw [HNS.out] at x4
 have x5 : W.cell? ⟨B, 5, none⟩ = some (.int .i64 ln) := by have := HV.out.xc 5 _ rfl; rwa [HLN.out] at this
 have r0 := HV.out.r0
 have r1 := HV.out.r1
 have q0 := HV.out.q0
 have q1 := HV.out.q1
 have b0 := HV.out.b0
 have b1 : W.cell? ⟨B + 2, 1, none⟩ = some (.int .i64 ln) := by have := HV.out.b1; rwa [HLN.out] at this
 have lt := HV.out.lt
 have lB : B < W.heap.size := by omega
 have lB1 : B + 1 < W.heap.size := by omega
 have hz := HB.out.size
 go_wp2_with fail
 refine (HFIND.out _ HB.out).mono ?_
 rintro e w1 ⟨⟨v, ok, rfl⟩, hb1⟩
 have HV1 := Lib.hid (HV.out.below hb1)
 have HB1 := Lib.hid (HB.out.trans (hb1.mono HB.out.size))
 clear x0 x2 x3 x4 x5 r0 r1 q0 q1 b0 b1 lt lB lB1 hz
 clear hb1
 go_upto_region 10 with (refine wpList_store_new rfl 45 _ _ rfl w1 _ v.cells.toArray rfl rfl rfl var_size8 rfl (var_one8 v) ?_)
 refine wp_name fun W2 hW2 => ?_
 obtain ⟨V, hV⟩ : ∃ V, V = w1.heap.size := ⟨_, rfl⟩
 have hh : W2.heap[V]? = some (.cells v.cells.toArray 45) := by rw [hW2.out, hV]; exact heap_alloc_new _ _
 have hb2 : Below w1.heap.size w1 W2 := by rw [hW2.out]; exact belowBy
 rw [← hV]
 obtain ⟨ty, hty⟩ : ∃ t, v.type = t := ⟨_, rfl⟩
 obtain ⟨ar, har⟩ : ∃ t, v.arr = t := ⟨_, rfl⟩
 have v1 : W2.cell? ⟨V, 1, none⟩ = some (.int .i64 ty) := by rw [← hty]; exact heap_cell 1 _ hh rfl
 have v3 : W2.cell? ⟨V, 3, none⟩ = some (.bool ar) := by rw [← har]; exact heap_cell 3 _ hh rfl
 have lV : V < W2.heap.size := (Array.getElem?_eq_some_iff.1 hh).1
 have HV2 := Lib.hid (HV1.out.below hb2)
 have HB2 := Lib.hid (HB1.out.trans (hb2.mono HB1.out.size))
 clear hb2 hh hW2 hV hty har HV HB HV1 HB1
 have x0 : W2.cell? ⟨B, 0, none⟩ = some (.int .i64 4) := by have := HV2.out.xc 0 _ rfl; rwa [HOP.out] at this
 have x2 : W2.cell? ⟨B, 2, none⟩ = some (.string x.name) := HV2.out.xc 2 _ rfl
 have x3 : W2.cell? ⟨B, 3, none⟩ = some (.string x.field) := HV2.out.xc 3 _ rfl
 have x4 := HV2.out.xc 4 _ rfl
 rw [HNS.out] at x4
 have x5 : W2.cell? ⟨B, 5, none⟩ = some (.int .i64 ln) := by have := HV2.out.xc 5 _ rfl; rwa [HLN.out] at this
 have r0 := HV2.out.r0
 have r1 := HV2.out.r1
 have q0 := HV2.out.q0
 have q1 := HV2.out.q1
 have b0 := HV2.out.b0
 have b1 : W2.cell? ⟨B + 2, 1, none⟩ = some (.int .i64 ln) := by have := HV2.out.b1; rwa [HLN.out] at this
 have lt := HV2.out.lt
 have lB : B < W2.heap.size := by omega
 have lB1 : B + 1 < W2.heap.size := by omega
 have hz := HB2.out.size
 cases ok
 ·go_wp2_with fail
  go_region
  all_goals
   go_wp2
   refine bodyPost_ret (v := .tuple #[.int .i64 0, .agg #[.int .i64 9, .int .i64 ln]]) (by simp [results, Tryd.results59, go_sem, r0, r1, q0, q1, lB1]) rfl ⟨⟨_, _, _, rfl⟩, by have hq := HB2.out; exact belowBy⟩
 ·cases ar
  ·go_wp2_with fail
   go_region
   all_goals
    go_wp2
    refine bodyPost_ret (v := .tuple #[.int .i64 0, .agg #[.int .i64 10, .int .i64 ln]]) (by simp [results, Tryd.results59, go_sem, r0, r1, q0, q1, lB1]) rfl ⟨⟨_, _, _, rfl⟩, by have hq := HB2.out; exact belowBy⟩
  ·by_cases h2 : 2 < ty
   ·go_wp2_with fail
    go_region
    all_goals
     go_wp2
     refine bodyPost_ret (v := .tuple #[.int .i64 0, .agg #[.int .i64 10, .int .i64 ln]]) (by simp [results, Tryd.results59, go_sem, r0, r1, q0, q1, lB1]) rfl ⟨⟨_, _, _, rfl⟩, by have hq := HB2.out; exact belowBy⟩
   ·obtain ⟨b', off, y, As, ks, hA, hbl, hy, hya, hys, hrg⟩ := RowE.at (HSUB.out.below HB2.out) (i := 0) (by rw [HNS.out]; decide)
    subst hA
    rw [Nat.zero_mul, Nat.add_zero] at hrg
    have HRG := Lib.hid hrg
    have HIX : Hid (Calls Tryd.prog 68 #[.slice vA nv vcap, .agg (ExC y As ks).toArray] W2 fun e w' => ErrR e ∧ Below W2.heap.size W2 w') := Lib.hid (index20_of y As vA ks nv vcap W2 (fun W hW => HTY.out y (List.mem_of_getElem? hy) W (HB2.out.trans (hW.mono HB2.out.size)) As ks (hya.keep hW) (hys.below hW)))
    clear hy hya hys hrg
    go_wp2_with (refine wpList_load_mid rfl 120 _ rfl b' off rfl (ExC y As ks) _ HRG.out Tryd.underlying120 rfl expr_size ?_)
    refine HIX.out.mono ?_
    rintro e w3 ⟨⟨a, b, rfl⟩, hb3⟩
    have v1' := (hb3.cell (p := ⟨V, 1, none⟩) lV).trans v1
    have lV' : V < w3.heap.size := Nat.lt_of_lt_of_le lV hb3.size
    have HV3 := Lib.hid (HV2.out.below hb3)
    have HB3 := Lib.hid (HB2.out.trans (hb3.mono HB2.out.size))
    clear x0 x2 x3 x4 x5 r0 r1 q0 q1 b0 b1 lt lB lB1 hz
    clear hb3 v1 v3 lV HV2 HB2 hbl
    have x0 : w3.cell? ⟨B, 0, none⟩ = some (.int .i64 4) := by have := HV3.out.xc 0 _ rfl; rwa [HOP.out] at this
    have x2 : w3.cell? ⟨B, 2, none⟩ = some (.string x.name) := HV3.out.xc 2 _ rfl
    have x3 : w3.cell? ⟨B, 3, none⟩ = some (.string x.field) := HV3.out.xc 3 _ rfl
    have x4 := HV3.out.xc 4 _ rfl
    rw [HNS.out] at x4
    have x5 : w3.cell? ⟨B, 5, none⟩ = some (.int .i64 ln) := by have := HV3.out.xc 5 _ rfl; rwa [HLN.out] at this
    have r0 := HV3.out.r0
    have r1 := HV3.out.r1
    have q0 := HV3.out.q0
    have q1 := HV3.out.q1
    have b0 := HV3.out.b0
    have b1 : w3.cell? ⟨B + 2, 1, none⟩ = some (.int .i64 ln) := by have := HV3.out.b1; rwa [HLN.out] at this
    have lt := HV3.out.lt
    have lB : B < w3.heap.size := by omega
    have lB1 : B + 1 < w3.heap.size := by omega
    have hz := HB3.out.size
    by_cases ha : a = 0
    ·subst ha
     go_wp2
     refine bodyPost_ret (v := .tuple #[.int .i64 ty, .agg #[.int .i64 0, .int .i64 0]]) (by simp [results, Tryd.results59, go_sem, r0, r1, q0, q1, lB1]) rfl ⟨⟨_, _, _, rfl⟩, by have hq := HB3.out; exact belowBy⟩
    ·have hab : (a != 0) = true := by simp [ha]
     go_wp2_with fail
     go_region
     all_goals
      go_wp2
      refine bodyPost_ret (v := .tuple #[.int .i64 0, .agg #[.int .i64 a, .int .i64 b]]) (by simp [results, Tryd.results59, go_sem, r0, r1, q0, q1, lB1]) rfl ⟨⟨_, _, _, rfl⟩, by have hq := HB3.out; exact belowBy⟩

end Go.Proofs.YtknnhnefbbjcdaaDoor

namespace Go.Proofs.YtknnhnefbbjcdaaDoor
open Go.RowKit
set_option linter.unusedVariables false
set_option linter.unusedSimpArgs false
attribute [local go_sem] ite_max ite_min vite_max vite_min ext_cell ext_frozen extS_cell extS_frozen

set_option maxRecDepth 100000 in
set_option maxHeartbeats 16000000 in
theorem type20_k6 (x : Ex) (w : World) (A vA : Option Addr) (vcap cap nv : Nat) (op ln : Int) (ns : Nat) (hin : TyIn x w A vA vcap cap nv op ln ns) (hk : 6 ≤ op ∧ op < 8 ∧ ns = 1) : Calls Tryd.prog 59 #[.slice vA nv vcap, .agg (ExC x A cap).toArray] w fun e w' => TyR e ∧ Below w.heap.size w w' := by
 obtain ⟨h6, h8, rfl⟩ := hk
 have HFIND := Lib.hid hin.find
 have HTY := Lib.hid hin.ty
 have HSUB := Lib.hid hin.sub
 have HOP := Lib.hid hin.opv
 have HNS := Lib.hid hin.nsv
 have HLN := Lib.hid hin.lnv
 have e0 : (ExC x A cap).toArray = #[.int .i64 op, .int .i64 x.n, .string x.name, .string x.field, .slice A 1 cap, .int .i64 ln] := by rw [← HOP.out, ← HNS.out, ← HLN.out]; rfl
 rw [e0]
 clear hin e0
 go_enter Tryd.func59, Tryd.ntmps59
 go_upto_region 2 with (fail)
 refine wp_name fun W hW => ?_
 obtain ⟨B, hB⟩ : ∃ B, B = w.heap.size := ⟨_, rfl⟩
 have hB1 : B + 1 = w.heap.size + 1 := by omega
 have hB2 : B + 2 = w.heap.size + 1 + 1 := by omega
 have hT : TyV W B x A cap := by
  have hh : W.heap[B]? = some (.cells (ExC x A cap).toArray 120) := by
   rw [hW.out, hB]
   have e1 : (ExC x A cap).toArray = #[.int .i64 op, .int .i64 x.n, .string x.name, .string x.field, .slice A 1 cap, .int .i64 ln] := by rw [← HOP.out, ← HNS.out, ← HLN.out]; rfl
   rw [e1]
   exact (heap_alloc_old _ _ (by simp; omega)).trans ((heap_alloc_old _ _ (by simp)).trans (heap_alloc_new _ _))
  refine ⟨by rw [hW.out, hB]; simp, fun j u hu => heap_cell j _ hh (by rw [List.getElem?_toArray]; exact hu), ?_, ?_, ?_, ?_, ?_, ?_⟩
  ·rw [hW.out, hB1]; go_simp
  ·rw [hW.out, hB1]; go_simp
  ·rw [hW.out, hB1]; go_simp
  ·rw [hW.out, hB1]; go_simp
  ·rw [hW.out, hB2]; go_simp
  ·rw [hW.out, hB2, HLN.out]; go_simp
 have HV := Lib.hid hT
 have hbel : Below w.heap.size w W := by rw [hW.out]; exact belowBy
 have HB := Lib.hid hbel
 rw [show w.heap.size + 1 + 1 = B + 2 by omega, show w.heap.size + 1 = B + 1 by omega, ← hB]
 have hwB : w.heap.size ≤ B := by omega
 clear hW hT hbel hB hB1 hB2
 have u1 : (op == 1) = false := by simp; omega
 have u2 : (op == 2) = false := by simp; omega
 have u3 : (op == 3) = false := by simp; omega
 have u4 : (op == 4) = false := by simp; omega
 have u5 : (op == 5) = false := by simp; omega
 have x0 : W.cell? ⟨B, 0, none⟩ = some (.int .i64 op) := by have := HV.out.xc 0 _ rfl; rwa [HOP.out] at this
 have x2 : W.cell? ⟨B, 2, none⟩ = some (.string x.name) := HV.out.xc 2 _ rfl
 have x3 : W.cell? ⟨B, 3, none⟩ = some (.string x.field) := HV.out.xc 3 _ rfl
 have x4 := HV.out.xc 4 _ rfl
 rw [HNS.out] at x4
 have x5 : W.cell? ⟨B, 5, none⟩ = some (.int .i64 ln) := by have := HV.out.xc 5 _ rfl; rwa [HLN.out] at this
 have r0 := HV.out.r0
 have r1 := HV.out.r1
 have q0 := HV.out.q0
 have q1 := HV.out.q1
 have b0 := HV.out.b0
 have b1 : W.cell? ⟨B + 2, 1, none⟩ = some (.int .i64 ln) := by have := HV.out.b1; rwa [HLN.out] at this
 have lt := HV.out.lt
 have lB : B < W.heap.size := by omega
 have lB1 : B + 1 < W.heap.size := by omega
 have hz := HB.out.size
 obtain ⟨b', off, y, As, ks, hA, hbl, hy, hya, hys, hrg⟩ := RowE.at (HSUB.out.below HB.out) (i := 0) (by rw [HNS.out]; decide)
 subst hA
 rw [Nat.zero_mul, Nat.add_zero] at hrg
 have HRG := Lib.hid hrg
 have HTX := Lib.hid (HTY.out y (List.mem_of_getElem? hy) W HB.out As ks hya hys)
 clear hy hya hys hrg
 go_wp2_with (refine wpList_load_mid rfl 120 _ rfl b' off rfl (ExC y As ks) _ HRG.out Tryd.underlying120 rfl expr_size ?_)
 refine HTX.out.mono ?_
 rintro e w1 ⟨⟨t1, a1, b1', rfl⟩, hb1⟩
 have HV1 := Lib.hid (HV.out.below hb1)
 have HB1 := Lib.hid (HB.out.trans (hb1.mono HB.out.size))
 clear x0 x2 x3 x4 x5 r0 r1 q0 q1 b0 b1 lt lB lB1 hz
 clear hb1 hbl HRG HTX HV HB
 have x0 : w1.cell? ⟨B, 0, none⟩ = some (.int .i64 op) := by have := HV1.out.xc 0 _ rfl; rwa [HOP.out] at this
 have x2 : w1.cell? ⟨B, 2, none⟩ = some (.string x.name) := HV1.out.xc 2 _ rfl
 have x3 : w1.cell? ⟨B, 3, none⟩ = some (.string x.field) := HV1.out.xc 3 _ rfl
 have x4 := HV1.out.xc 4 _ rfl
 rw [HNS.out] at x4
 have x5 : w1.cell? ⟨B, 5, none⟩ = some (.int .i64 ln) := by have := HV1.out.xc 5 _ rfl; rwa [HLN.out] at this
 have r0 := HV1.out.r0
 have r1 := HV1.out.r1
 have q0 := HV1.out.q0
 have q1 := HV1.out.q1
 have b0 := HV1.out.b0
 have b1 : w1.cell? ⟨B + 2, 1, none⟩ = some (.int .i64 ln) := by have := HV1.out.b1; rwa [HLN.out] at this
 have lt := HV1.out.lt
 have lB : B < w1.heap.size := by omega
 have lB1 : B + 1 < w1.heap.size := by omega
 have hz := HB1.out.size
 by_cases ha1 : a1 = 0
 ·subst ha1
  go_upto_region 36 with (fail)
  rcases (show op = 6 ∨ op = 7 by omega) with rfl | rfl
  ·as_aux_lemma =>
    cases hc : (t1 != 1)
    ·go_wp2
     refine bodyPost_ret (v := .tuple #[.int .i64 1, .agg #[.int .i64 0, .int .i64 0]]) (by simp [results, Tryd.results59, go_sem, r0, r1, q0, q1, lB1]) rfl ⟨⟨_, _, _, rfl⟩, by have hq := HB1.out; exact belowBy⟩
    ·go_wp2_with fail
     go_region
     all_goals
      go_wp2
      refine bodyPost_ret (v := .tuple #[.int .i64 0, .agg #[.int .i64 10, .int .i64 ln]]) (by simp [results, Tryd.results59, go_sem, r0, r1, q0, q1, lB1]) rfl ⟨⟨_, _, _, rfl⟩, by have hq := HB1.out; exact belowBy⟩
  ·as_aux_lemma =>
    cases hc : (t1 != 2)
    ·go_wp2
     refine bodyPost_ret (v := .tuple #[.int .i64 2, .agg #[.int .i64 0, .int .i64 0]]) (by simp [results, Tryd.results59, go_sem, r0, r1, q0, q1, lB1]) rfl ⟨⟨_, _, _, rfl⟩, by have hq := HB1.out; exact belowBy⟩
    ·go_wp2_with fail
     go_region
     all_goals
      go_wp2
      refine bodyPost_ret (v := .tuple #[.int .i64 0, .agg #[.int .i64 10, .int .i64 ln]]) (by simp [results, Tryd.results59, go_sem, r0, r1, q0, q1, lB1]) rfl ⟨⟨_, _, _, rfl⟩, by have hq := HB1.out; exact belowBy⟩
 ·have hab : (a1 != 0) = true := by simp [ha1]
  go_wp2_with fail
  go_region
  all_goals
   go_wp2
   refine bodyPost_ret (v := .tuple #[.int .i64 0, .agg #[.int .i64 a1, .int .i64 b1']]) (by simp [results, Tryd.results59, go_sem, r0, r1, q0, q1, lB1]) rfl ⟨⟨_, _, _, rfl⟩, by have hq := HB1.out; exact belowBy⟩

end Go.Proofs.YtknnhnefbbjcdaaDoor
