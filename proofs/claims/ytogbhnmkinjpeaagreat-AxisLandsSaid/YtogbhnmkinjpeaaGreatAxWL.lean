/- Layer 15: AxisLands, by the walk. PRINTED by wip/tool/mkaxw.py -/
import Derived.Test.YtogbhnmkinjpeaaGreatM43
namespace Go.Proofs.YtogbhnmkinjpeaaGreat
open Go.RowKit
set_option linter.unusedVariables false
set_option linter.unusedSimpArgs false
attribute [local go_sem] ite_max ite_min vite_max vite_min ext_cell ext_frozen

set_option maxRecDepth 100000 in
set_option maxHeartbeats 8000000 in
theorem lands_main (a : AX) (sv nv wv : Value) (L : List Value) (hL : AxL a sv nv wv L) (id way speed : Int) (hid : I64 id) (hwy : -32768 ≤ way ∧ way ≤ 32767) (hsp : I64 speed) (w : World) (h : AxV w a sv nv wv) :
  Calls Tryz.prog 7 #[.agg L.toArray, .int .i64 id, .int .i16 way, .int .i64 speed] w fun e w' => e = .returned (.bool true) ∧ Below w.heap.size w w' := by
 have HA := Lib.hid h
 have HL := Lib.hid hL
 obtain ⟨r1, hr1⟩ : ∃ r, shortX a [] = r := ⟨_, rfl⟩
 have HSH : Hid (∀ W, Below w.heap.size w W → Calls Tryz.prog 13 #[.agg L.toArray, .agg (inC inZ nilS).toArray] W fun e w' => e = .returned (.bool r1) ∧ Below W.heap.size W w') := Lib.hid (fun W hb => by
  rw [hL.eq]
  exact short15_at a sv nv wv W (h.below hb) inZ [] nilS 0 rfl ⟨_, _, rfl⟩ r1 hr1)
 obtain ⟨r2, hr2⟩ : ∃ r, rightX a = r := ⟨_, rfl⟩
 have HRI : Hid (∀ W, Below w.heap.size w W → Calls Tryz.prog 10 #[.agg L.toArray] W fun e w' => e = .returned (.bool r2) ∧ Below W.heap.size W w') := Lib.hid (fun W hb => aright_L a sv nv wv L r2 W (h.below hb) hL hr2)
 have HR2 := Lib.hid hr2
 clear h hL hr1 hr2
 go_enter Tryz.func7, Tryz.ntmps7
 go_upto_region 1 with (fail)
 refine wp_name fun W hW => ?_
 obtain ⟨B, hB⟩ : ∃ B, B = w.heap.size := ⟨_, rfl⟩
 have HB : Hid (Below w.heap.size w W) := by rw [hW.out]; exact Lib.hid (by exact belowBy)
 have HK : Hid (W.heap[B]? = some (.cells L.toArray 35)) := by
  rw [hW.out, hB]
  exact Lib.hid (heap_alloc_new _ _)
 have HBw := Lib.hid hB
 (try rw [← hB])
 clear hW hB
 go_wp2_with fail
 refine (awake15 _).mono ?_
 rintro e w1 ⟨rfl, hb1⟩
 have hlt : B < W.heap.size := (Array.getElem?_eq_some_iff.1 HK.out).1
 have HB1 := Lib.hid (HB.out.trans (hb1.mono HB.out.size))
 have HK1 := Lib.hid ((hb1.block B hlt).trans HK.out)
 clear hb1 HK HB hlt
 go_upto_region 3 with (fail)
 go_cut [53] from 19 to 53 (fun r wx => ∃ v : Bool, r = .bool v ∧ Hid (Below w.heap.size w wx) ∧ Hid (wx.heap[B]? = some (.cells L.toArray 35)) ∧ Hid (v = false → r2 = true ∧ a.st = 1 ∧ a.ns = [] ∧ a.g.v = 0 ∧ -1000 ≤ way ∧ way ≤ 1000))
 case first =>
  go_wp2_with (refine wpList_load_row rfl 35 _ rfl B rfl 35 L.toArray (0, 0) _ HK1.out Tryz.underlying35 rfl HL.out.size ?_)
  refine (HSH.out _ HB1.out).mono ?_
  rintro e w2 ⟨rfl, hb2⟩
  have hlt : B < w1.heap.size := (Array.getElem?_eq_some_iff.1 HK1.out).1
  have HB2 := Lib.hid (HB1.out.trans (hb2.mono HB1.out.size))
  have HK2 := Lib.hid ((hb2.block B hlt).trans HK1.out)
  clear hb2 HK1 HB1 hlt
  cases r1
  ·go_wp2
   go_meet
   case rel => exact ⟨true, rfl, HB2, HK2, Lib.hid (fun h => by cases h)⟩
  have hrg := range_of HK2.out
  go_wp2_with (refine wpList_load_midG 35 _ rfl B 0 rfl L _ hrg Tryz.underlying35 rfl HL.out.size (by first | rfl | kernel_rfl) ?_)
  clear hrg
  refine (HRI.out _ HB2.out).mono ?_
  rintro e w3 ⟨rfl, hb3⟩
  have hlt : B < w2.heap.size := (Array.getElem?_eq_some_iff.1 HK2.out).1
  have HB3 := Lib.hid (HB2.out.trans (hb3.mono HB2.out.size))
  have HK3 := Lib.hid ((hb3.block B hlt).trans HK2.out)
  clear hb3 HK2 HB2 hlt
  cases r2
  ·go_wp2
   go_meet
   case rel => exact ⟨true, rfl, HB3, HK3, Lib.hid (fun h => by cases h)⟩
  have c0 : w3.cell? ⟨B, 0, none⟩ = some (.int .i64 a.st) := heap_cell 0 _ HK3.out (by rw [HL.out.eq]; rfl)
  have c11 : w3.cell? ⟨B, 11, none⟩ = some (.int .i64 a.g.v) := heap_cell 11 _ HK3.out (by rw [HL.out.eq]; rfl)
  obtain ⟨p, A1, c1, c14, hp⟩ : ∃ p A1 c1, w3.cell? ⟨B, 14, none⟩ = some (.slice A1 p c1) ∧ p = a.ns.length := by
   obtain ⟨⟨A1, c1, e1, -⟩, -⟩ := LineV.parts HA.out.ln
   refine ⟨_, A1, c1, ?_, rfl⟩
   rw [← e1]
   exact heap_cell 14 _ HK3.out (by rw [HL.out.eq]; rfl)
  have HPN := Lib.hid hp
  clear hp
  by_cases e1 : a.st = 1
  case neg =>
   have f1 : (a.st != 1) = true := by simp [e1]
   clear e1
   go_wp2
   go_meet
   case rel => exact ⟨true, rfl, HB3, HK3, Lib.hid (fun h => by cases h)⟩
  have f1 : (a.st != 1) = false := by simp [e1]
  by_cases e2 : p = 0
  case neg =>
   have f2 : ((p : Int) != 0) = true := by simp [e2]
   clear e1 e2
   go_wp2
   go_meet
   case rel => exact ⟨true, rfl, HB3, HK3, Lib.hid (fun h => by cases h)⟩
  have HN0 : Hid (a.ns = []) := Lib.hid (List.eq_nil_of_length_eq_zero (by rw [← HPN.out]; exact e2))
  subst e2
  have f2 : ((0 : Int) != 0) = false := rfl
  by_cases e3 : a.g.v = 0
  case neg =>
   have f3 : (a.g.v != 0) = true := by simp [e3]
   clear e1 e3
   go_wp2
   go_meet
   case rel => exact ⟨true, rfl, HB3, HK3, Lib.hid (fun h => by cases h)⟩
  have f3 : (a.g.v != 0) = false := by simp [e3]
  have H13 : Hid (a.st = 1 ∧ a.g.v = 0) := Lib.hid ⟨e1, e3⟩
  clear e1 e3
  by_cases e4 : 1000 < way
  ·go_wp2
   go_meet
   case rel => exact ⟨true, rfl, HB3, HK3, Lib.hid (fun h => by cases h)⟩
  by_cases e5 : way < -1000
  ·go_wp2
   go_meet
   case rel => exact ⟨true, rfl, HB3, HK3, Lib.hid (fun h => by cases h)⟩
  have H45 : Hid (-1000 ≤ way ∧ way ≤ 1000) := Lib.hid ⟨by omega, by omega⟩
  go_wp2
  go_meet
  case rel => exact ⟨false, by first | rfl | (simp; omega), HB3, HK3, Lib.hid (fun _ => ⟨by simp, H13.out.1, HN0.out, H13.out.2, H45.out⟩)⟩
 case rest =>
  obtain ⟨v, rfl, HB3, HK3, HV⟩ := hcut
  cases v
  case true =>
   go_wp2
   go_ret
   exact ⟨rfl, HB3.out⟩
  case false =>
   obtain ⟨g2, g3⟩ := HV.out rfl
   have HG3 := Lib.hid g3
   have HR : Hid (AxR wc a sv nv wv) := Lib.hid ⟨HA.out.below HB3.out, HR2.out.trans g2⟩
   clear HSH HRI HR2 HA HV g2 g3 HK1 HB1
   have hlB0 : B < wc.heap.size := (Array.getElem?_eq_some_iff.1 HK3.out).1
   obtain ⟨i1, hi1⟩ : ∃ i : INS, i = ⟨true, true, 0, 0, false, false, false, false, false, 100, 0, 0⟩ := ⟨_, rfl⟩
   have HI1 : Hid (i1.pw = true ∧ i1.op = true ∧ i1.cau = 0 ∧ i1.plus = false ∧ i1.minus = false ∧ i1.ov = 100 ∧ InW i1) := by
    rw [hi1]
    exact Lib.hid ⟨rfl, rfl, rfl, rfl, rfl, rfl, by show I64 0; unfold I64; decide, by show I64 0; unfold I64; decide⟩
   obtain ⟨M, hM⟩ : ∃ M, M = inC i1 nilS := ⟨_, rfl⟩
   have HM : Hid (InL i1 nilS M) := Lib.hid ⟨hM⟩
   have HMe : Hid (M = [.bool true, .bool true, .int .i64 0, .int .i64 0, .bool false, .bool false, .bool false, .bool false, .bool false, .int .i64 100, .int .i64 0, .slice none 0 0]) := Lib.hid (by rw [hM, hi1]; rfl)
   have HMS : Hid (M.toArray.size = 12) := Lib.hid (by rw [HMe.out]; rfl)
   have HMO : Hid (M.toArray.all (·.oneCell') = true) := Lib.hid (HM.out.one rfl)
   have HINC : Hid (∀ cv, inC i1 cv = [.bool true, .bool true, .int .i64 0, .int .i64 0, .bool false, .bool false, .bool false, .bool false, .bool false, .int .i64 100, .int .i64 0, cv]) := Lib.hid (fun cv => by rw [hi1]; rfl)
   clear hi1 hM
   go_upto_region 6 with (refine wpList_store_row rfl 44 _ _ rfl wc.heap.size M.toArray rfl (by first | rfl | (rw [HMe.out]; rfl)) 44 _ (heap_alloc_new _ _) (by rw [List.size_toArray]; exact HM.out.size) (by rw [HMS.out]; rfl) HMO.out ?_)
   refine wp_name fun W5 hW5 => ?_
   obtain ⟨J, hJ⟩ : ∃ x, x = wc.heap.size := ⟨_, rfl⟩
   have HJ5 : Hid (W5.heap[J]? = some (.cells M.toArray 44)) := by rw [hW5.out, hJ]; exact Lib.hid (setRow_heap _ _ _ _ _ _ (heap_alloc_new _ _))
   have hb5 : Below wc.heap.size wc W5 := by rw [hW5.out]; exact below_setRow (below_new (Below.refl _ _) (Nat.le_refl _) _) (Nat.le_refl _) _
   have HB5 := Lib.hid (HB3.out.trans (hb5.mono HB3.out.size))
   have HK5 := Lib.hid ((hb5.block B hlB0).trans HK3.out)
   have HR5 := Lib.hid (HR.out.below hb5)
   have hlJ : J < W5.heap.size := (Array.getElem?_eq_some_iff.1 HJ5.out).1
   (try rw [← hJ])
   clear hW5 hJ hb5 HB3 HK3 HR hlB0
   go_upto_region 7 with (first
    | refine wpList_load_row rfl 44 _ rfl J rfl 44 M.toArray (0, 0) _ HJ5.out Tryz.underlying44 rfl HM.out.size ?_
    | refine wpList_store_row rfl 44 _ _ rfl W5.heap.size M.toArray rfl rfl 44 _ (heap_alloc_new _ _) (by rw [List.size_toArray]; exact HM.out.size) (by rw [HMS.out]; rfl) HMO.out ?_)
   refine wp_name fun W6 hW6 => ?_
   obtain ⟨J2, hJ2⟩ : ∃ x, x = W5.heap.size := ⟨_, rfl⟩
   have HJ6 : Hid (W6.heap[J2]? = some (.cells M.toArray 44)) := by rw [hW6.out, hJ2]; exact Lib.hid (setRow_heap _ _ _ _ _ _ (heap_alloc_new _ _))
   have hb6 : Below W5.heap.size W5 W6 := by rw [hW6.out]; exact below_setRow (below_new (Below.refl _ _) (Nat.le_refl _) _) (Nat.le_refl _) _
   have HB6 := Lib.hid (HB5.out.trans (hb6.mono HB5.out.size))
   have hlB5 : B < W5.heap.size := (Array.getElem?_eq_some_iff.1 HK5.out).1
   have HK6 := Lib.hid ((hb6.block B hlB5).trans HK5.out)
   have HR6 := Lib.hid (HR5.out.below hb6)
   have HJ61 := Lib.hid ((hb6.block J hlJ).trans HJ5.out)
   have HJ5' := HJ5
   have HK5' := HK5
   have hlJ2 : J2 < W6.heap.size := (Array.getElem?_eq_some_iff.1 HJ6.out).1
   have hW5J2 : W5.heap.size ≤ J2 := by omega
   have HB56 := Lib.hid hb6
   (try rw [← hJ2])
   clear hW6 hJ2 hb6 HK5 HJ5
   have cJ11 : W6.cell? ⟨J2, 11, none⟩ = some (.slice none 0 0) := heap_cell 11 _ HJ6.out (by rw [HMe.out]; rfl)
   have fJ := fun j => frozen_of_row W6 J2 j _ _ HJ6.out
   have hcv : IntKind.i64.wrap way = way := by simp only [RowKit.wrap64, IntKind.wrap_i64]; omega
   go_upto_region 8 with (fail)
   refine wp_name fun W7 hW7 => ?_
   obtain ⟨C, hC⟩ : ∃ x, x = W6.heap.size := ⟨_, rfl⟩
   have hb7 : Below W5.heap.size W5 W7 := by rw [hW7.out]; exact below_new (Below.setCell HB56.out hW5J2 _) (Nat.le_refl _) _
   have hs6 : (W6.setCell ⟨J2, 11, none⟩ (.slice (some ⟨C, 0, none⟩) 1 1)).heap.size = C := by rw [hC]; simp [World.setCell]
   have HC7 : Hid (W7.heap[C]? = some (.cells #[.int .i64 id, .int .i64 2, .int .i64 way, .int .i64 speed, .int .i64 0, .int .i64 0, .int .i64 0] 56)) := by
    rw [hW7.out, ← hC]
    exact Lib.hid (heap_alloc_atX hs6)
   have HJ27 : Hid (W7.heap[J2]? = some (.cells (inC i1 (.slice (some ⟨C, 0, none⟩) 1 1)).toArray 44)) := by
    rw [hW7.out, ← hC]
    refine Lib.hid (((below_new (Below.refl _ _) (Nat.le_refl _) _).block J2 (by rw [hs6, hC]; exact hlJ2)).trans ?_)
    rw [heap_setCell_same W6 J2 11 _ _ _ HJ6.out, List.setIfInBounds_toArray, HMe.out, HINC.out]
    rfl
   have HCR : Hid (ReadC W7 [moveX id way speed].length (cmdsC [moveX id way speed]) 0 (.slice (some ⟨C, 0, none⟩) 1 1)) := Lib.hid
    ⟨_, _, rfl, by simp, by simp, ⟨rfl, fun _ => ⟨C, 0, rfl, (Array.getElem?_eq_some_iff.1 HC7.out).1, fun j u hu => by
     rw [Nat.zero_add]
     exact heap_cell j u HC7.out (by rw [List.getElem?_toArray]; exact hu)⟩⟩, fun _ _ _ _ => Nat.zero_le _⟩
   have HB7 := Lib.hid (HB5.out.trans (hb7.mono HB5.out.size))
   have HK7 := Lib.hid ((hb7.block B hlB5).trans HK5'.out)
   have HR7 := Lib.hid (HR5.out.below hb7)
   have HJ7 := Lib.hid ((hb7.block J hlJ).trans HJ5'.out)
   (try rw [← hC])
   have hJJ : J < J2 := by omega
   clear hW7 hC hb7 hs6 HC7 HB5 HK5' HR5 HJ5' HB56 HJ6 HJ61 HK6 HR6 HB6 cJ11 fJ hcv hlJ2 hlB5 hW5J2 hlJ
   obtain ⟨gp, hgp⟩ : ∃ x, a.g.p = x := ⟨_, rfl⟩
   have c10 : W7.cell? ⟨B, 10, none⟩ = some (.int .i64 gp) := by rw [← hgp]; exact heap_cell 10 _ HK7.out (by rw [HL.out.eq]; rfl)
   have hpos := HR7.out.inv.pos
   have hway := HG3.out.2.2.2
   rw [hgp] at hpos
   have hto : IntKind.i64.wrap (gp + way) = gp + way := by simp only [RowKit.wrap64, IntKind.wrap_i64]; omega
   have hcv : IntKind.i64.wrap way = way := by simp only [RowKit.wrap64, IntKind.wrap_i64]; omega
   have HGP := Lib.hid hgp
   clear hgp
   obtain ⟨M2, hM2⟩ : ∃ x, x = inC i1 (.slice (some ⟨C, 0, none⟩) 1 1) := ⟨_, rfl⟩
   have HM2 : Hid (InL i1 (.slice (some ⟨C, 0, none⟩) 1 1) M2) := Lib.hid ⟨hM2⟩
   rw [← hM2] at HJ27
   clear hM2
   go_wp2_with (first
    | refine wpList_load_row rfl 35 _ rfl B rfl 35 L.toArray (0, 0) _ HK7.out Tryz.underlying35 rfl HL.out.size ?_
    | refine wpList_load_row rfl 44 _ rfl J2 rfl 44 M2.toArray (0, 0) _ HJ27.out Tryz.underlying44 rfl HM2.out.size ?_)
   refine (astep_right HR7.out HL.out (i := i1) (cs := [moveX id way speed]) (cv := .slice (some ⟨C, 0, none⟩) 1 1) ⟨HI1.out.2.2.2.2.2.2, HCR.out, fun c hc => by rw [List.mem_singleton.1 hc]; exact ⟨hid, by show I64 2; unfold I64; decide, by show I64 way; unfold I64; omega, hsp, by show I64 0; unfold I64; decide, by show I64 0; unfold I64; decide, by show I64 0; unfold I64; decide⟩⟩ (by simp) HM2.out).mono ?_
   rintro e w8 ⟨L2, rv2, rfl, hst⟩
   obtain ⟨N0, hN0⟩ : ∃ x : WS, cycX a (atD i1 W7) [moveX id way speed] = x := ⟨_, rfl⟩
   have hfc := first_cyc (atD i1 W7) id way speed HR7.out.inv (good_of HR7.out.r) ⟨HI1.out.2.2.2.2.2.2.act, HI1.out.2.2.2.2.2.2.mas⟩ HG3.out.1 HG3.out.2.1 HG3.out.2.2.1 hway hid hsp HI1.out.1 HI1.out.2.1 HI1.out.2.2.1 HI1.out.2.2.2.1 HI1.out.2.2.2.2.1 HI1.out.2.2.2.2.2.1
   rw [hN0] at hst hfc
   rw [HGP.out] at hfc
   have HFC := Lib.hid hfc
   have hn4 := nvar_pa (zs := (#[.int .i64 0, .int .i64 0, .int .i64 0, .int .i64 0, .int .i64 0, .int .i64 0, .int .i64 0, .int .i64 0, .int .i64 0, .int .i64 0, .int .i64 0, .int .i64 0, .slice none 0 0, .int .i64 0, .slice none 0 0, .slice none 0 0, .bool false, .int .i64 0, .int .i64 0, .int .i64 0, .bool false, .int .i64 0, .int .i64 0, .int .i64 0, .int .i64 0, .bool false] : Array Value)) hst (Nat.le_refl _)
   have hb4 : Below W7.heap.size W7 (((w8.alloc (.cells (#[.int .i64 0, .int .i64 0, .int .i64 0, .int .i64 0, .int .i64 0, .int .i64 0, .int .i64 0, .int .i64 0, .int .i64 0, .int .i64 0, .int .i64 0, .int .i64 0, .slice none 0 0, .int .i64 0, .slice none 0 0, .slice none 0 0, .bool false, .int .i64 0, .int .i64 0, .int .i64 0, .bool false, .int .i64 0, .int .i64 0, .int .i64 0, .int .i64 0, .bool false] : Array Value) 35)).setRow w8.heap.size L2.toArray)) := below_setRow (below_new (hst.below) (Nat.le_refl _) _) hst.below.size _
   have HN2 : Hid (L2.toArray.all (·.oneCell') = true ∧ (Tryz.prog.info? 35).map (·.size) = some L2.length ∧ L2.toArray.size = 26) := by
    obtain ⟨⟨sv1, nv1, wv1, q1, q2, -⟩, -, -⟩ := hst
    exact Lib.hid ⟨AxR.one q1.v q2, q2.size, by rw [q2.eq]; rfl⟩
   have HN4 := Lib.hid hn4
   have HB4 := Lib.hid hb4
   clear hst hfc hN0 hn4 hb4 c10 HCR HJ27 HM2
   go_upto_region 10 with (refine wpList_store_row rfl 35 _ _ rfl w8.heap.size L2.toArray rfl rfl 35 _ (heap_alloc_new _ _) (by rw [List.size_toArray]; exact HN2.out.2.1) (by rw [HN2.out.2.2]; rfl) HN2.out.1 ?_)
   refine wp_name fun W9 hW9 => ?_
   obtain ⟨Q, hQ⟩ : ∃ x, x = w8.heap.size := ⟨_, rfl⟩
   have HN9 := HN4
   rw [← hW9.out, ← hQ] at HN9
   have HB9 := HB4
   rw [← hW9.out] at HB9
   (try rw [← hQ])
   clear hW9 hQ HN4 HB4 HN2
   have hlB7 : B < W7.heap.size := (Array.getElem?_eq_some_iff.1 HK7.out).1
   have hlJ7 : J < W7.heap.size := (Array.getElem?_eq_some_iff.1 HJ7.out).1
   have HBB := Lib.hid (HB7.out.trans (HB9.out.mono HB7.out.size))
   have HK9 := Lib.hid ((HB9.out.block B hlB7).trans HK7.out)
   have HJ9 := Lib.hid ((HB9.out.block J hlJ7).trans HJ7.out)
   have HR9 := Lib.hid (HR7.out.below HB9.out)
   have hQ7 : W7.heap.size ≤ Q := HN9.out.q
   have hbd := rightB_yes HR9.out.inv.lr
   obtain ⟨bd, hbde⟩ : ∃ x, bndX a = x := ⟨_, rfl⟩
   have HBD := Lib.hid hbde
   rcases HFC.out with ⟨hrs, hor⟩ | ⟨hok, -, hld⟩
   ·rw [hrs] at HN9
    obtain ⟨R, cr, hrv, hr1, hr2, hrc⟩ := reps_at HN9.out.own
    obtain ⟨g, rfl, hg2, -, r1⟩ := hrc 0 _ rfl
    have hrv' : rv2 = .slice (some ⟨g, 0, none⟩) 1 cr := hrv
    subst hrv'
    have r1' : W9.cell? ⟨g, 1, none⟩ = some (.int .i64 5) := r1
    have b1 : W9.cell? ⟨B, 1, none⟩ = some (.int .i64 a.l.v) := heap_cell 1 _ HK9.out (by rw [HL.out.eq]; rfl)
    have hlB9 : B < W9.heap.size := (Array.getElem?_eq_some_iff.1 HK9.out).1
    rw [hbde] at hor
    have HOR := Lib.hid hor
    clear hrs hor hrv hr1 hr2 hrc r1 HFC
    go_wp2_with (refine wpList_load_row rfl 35 _ rfl B rfl 35 L.toArray (0, 0) _ HK9.out Tryz.underlying35 rfl HL.out.size ?_)
    refine (abounds_L a sv nv wv L bd W9 HL.out HBD.out).mono ?_
    rintro e w10 ⟨rfl, hb10⟩
    have HEND := Lib.hid (HBB.out.trans (hb10.mono HBB.out.size))
    have d1 := (hb10.cell (p := ⟨B, 1, none⟩) hlB9).trans b1
    have hlB10 : B < w10.heap.size := Nat.lt_of_lt_of_le hlB9 hb10.size
    obtain ⟨V, hV⟩ : ∃ x, a.l.v = x := ⟨_, rfl⟩
    rw [hV] at d1 HOR
    clear hb10 b1 hV r1' hg2 hlB9 hbde
    have hor := HOR.out
    by_cases c1 : speed < 1
    ·go_wp2
     go_ret
     exact ⟨by first | rfl | (simp; omega), HEND.out.trans (Below.mono (by exact belowBy) HEND.out.size)⟩
    by_cases c2 : V < speed
    ·go_wp2
     go_ret
     exact ⟨by first | rfl | (simp; omega), HEND.out.trans (Below.mono (by exact belowBy) HEND.out.size)⟩
    by_cases c3 : gp + way < bd.lo
    ·go_wp2
     go_ret
     exact ⟨by first | rfl | (simp; omega), HEND.out.trans (Below.mono (by exact belowBy) HEND.out.size)⟩
    have c4 : bd.hi < gp + way := by omega
    go_wp2
    go_ret
    exact ⟨by first | rfl | (simp; omega), HEND.out.trans (Below.mono (by exact belowBy) HEND.out.size)⟩
   ·obtain ⟨hli, hr0⟩ := land_first hld
    obtain ⟨R, cr, hrv, hr1, hr2, hrc⟩ := reps_at HN9.out.own
    obtain ⟨g, rfl, hg2, -, r1⟩ := hrc 0 _ hr0
    have hnr0 : 0 < N0.rs.length := (List.getElem?_eq_some_iff.1 hr0).1
    obtain ⟨nr, hnr⟩ : ∃ x, N0.rs.length = x := ⟨_, rfl⟩
    rw [hnr] at hrv hr1 hnr0
    obtain ⟨rvv, hrvv⟩ : ∃ x, x = rv2 := ⟨_, rfl⟩
    have HN10 := HN9
    rw [← hrvv] at HN10
    have HRVV : Hid (rvv = .slice (some ⟨g, 0, none⟩) nr cr) := Lib.hid (hrvv.trans hrv)
    clear hrvv
    subst hrv
    have r1' : W9.cell? ⟨g, 1, none⟩ = some (.int .i64 1) := r1
    have hnn : (0 : Int) < (nr : Int) := by omega
    rw [hbde] at hok
    obtain ⟨k, hk⟩ : ∃ k : CmdS, k = ⟨id, 1, gp + way, speed, 0, 0, 0⟩ := ⟨_, rfl⟩
    rw [← hk] at hli
    have HLI := Lib.hid hli
    have HKK : Hid (k.id = id ∧ k.target = gp + way ∧ k.kind = 1 ∧ (1 ≤ k.speed ∧ k.speed ≤ 1048576) ∧ ((bndX a).lo ≤ gp + way ∧ gp + way ≤ (bndX a).hi)) := Lib.hid (by
     rw [hk, hbde]
     dsimp only
     exact ⟨rfl, rfl, rfl, ⟨hok.1, by omega⟩, hok.2.2.1, hok.2.2.2⟩)
    have HBQ : Hid (w.heap.size ≤ W7.heap.size) := Lib.hid HB7.out.size
    have hJQ : J < Q := by omega
    clear hli hld hk hok hr0 hrc hnr hr1 hr2 hg2 r1 HFC HBD hbde hbd
    go_wp2_with fail
    clear r1' hnn hnr0
    rw [← HRVV.out]
    clear HRVV
    go_loopw [13, 15] (fun r13 r15 wr => ∃ (i : Nat) (n : AX) (rs : List RepS) (Ln : List Value) (rv : Value), i ≤ 1021 ∧ r13 = rv ∧ r15 = .int .i64 i ∧ Hid (NVar W7.heap.size n rs Ln rv Q wr) ∧ Hid (wr.heap[J]? = some (.cells M.toArray 44)) ∧ Hid (Below w.heap.size w wr) ∧ Hid (LandI a id (gp + way) k i n rs)) (fun _ r15 _ => 2100 - (intOf r15).toNat)
    case atStart => exact ⟨0, N0.a, N0.rs, L2, rvv, by omega, rfl, rfl, HN10, HJ9, HBB, HLI⟩
    case round =>
     obtain ⟨i, n, rs, Ln, rv, hi, hrv13, rfl, HNm, HJm, HBm, HLm⟩ := hrel
     have hi2 : (i : Int) < 2100 := by omega
     obtain ⟨R9, cr9, hrv, hr1, hr2, hrc⟩ := reps_at HNm.out.own
     obtain ⟨nr9, hnr⟩ : ∃ x, rs.length = x := ⟨_, rfl⟩
     rw [hnr] at hrv hr1
     have HNR9 := Lib.hid hnr
     obtain ⟨rvv, hrvv⟩ : ∃ x, x = rv := ⟨_, rfl⟩
     have HNm' := HNm
     rw [← hrvv] at HNm'
     clear HNm hrvv
     subst hrv
     subst hrv13
     have HRC := Lib.hid hrc
     obtain ⟨svn, nvn, wvn, hxn, hln, -⟩ := HNm'.out.ax
     have HXN := Lib.hid hxn
     have HLN := Lib.hid hln
     have hlQ := HNm'.out.lt
     have hJr : J < wr.heap.size := (Array.getElem?_eq_some_iff.1 HJm.out).1
     clear hrc hnr hxn hln
     go_wp2_with fail
     go_loopw [16] (fun u wx => ∃ q : Nat, q ≤ nr9 ∧ u = .int .i64 q ∧ Hid (∀ (j : Nat) (r : RepS), j < q → rs[j]? = some r → ¬ (r.id = id ∧ r.what = 2)) ∧ wx = wr) (fun u _ => nr9 - (intOf u).toNat)
     case atStart => exact ⟨0, by omega, rfl, Lib.hid (fun j r h => by omega), rfl⟩
     case round =>
      obtain ⟨q, hq, rfl, HQN, rfl⟩ := hrel
      by_cases hq2 : q < nr9
      ·obtain ⟨r, hr⟩ : ∃ r, rs[q]? = some r := ⟨_, List.getElem?_eq_getElem (by rw [HNR9.out]; exact hq2)⟩
       obtain ⟨g, rfl, e2, e3, e4⟩ := HRC.out q r hr
       have hq0 : (0 : Int) ≤ (q : Int) := by omega
       have hqn : (q : Int) < (nr9 : Int) := by omega
       by_cases hd : r.id = id ∧ r.what = 2
       ·have HST := Lib.hid (HLm.out.done r (List.mem_of_getElem? hr) hd.1 hd.2)
        rw [hd.1] at e3
        rw [hd.2] at e4
        have f1 : (id == id) = true := by simp
        obtain ⟨wn, hwn⟩ : ∃ y, n.win = y := ⟨_, rfl⟩
        obtain ⟨of, hof⟩ : ∃ y, n.off = y := ⟨_, rfl⟩
        obtain ⟨X, hX⟩ : ∃ y, wn * (gp + way + of) = y := ⟨_, rfl⟩
        have hwb := HXN.out.inv.win
        have hob := HXN.out.inv.off
        rw [hwn] at hwb
        rw [hof] at hob
        have hwo := win_off (win := wn) (off := gp + way + of) (by omega)
        have hXX : Hid (outX n = X) := Lib.hid (by rw [HST.out.out, hwn, hof, hX])
        have w1 : IntKind.i64.wrap (gp + way + of) = gp + way + of := by simp only [RowKit.wrap64, IntKind.wrap_i64]; omega
        have w2 : IntKind.i64.wrap (wn * (gp + way + of)) = X := by
         rw [hX]
         have h3 : -(16 * 300000000000000000) ≤ wn * (gp + way + of) ∧ wn * (gp + way + of) ≤ 16 * 300000000000000000 := by
          have h4 : wn * (gp + way + of) ≤ wn * 300000000000000000 := Int.mul_le_mul_of_nonneg_left (by omega) (by omega)
          have h5 : wn * (-300000000000000000) ≤ wn * (gp + way + of) := Int.mul_le_mul_of_nonneg_left (by omega) (by omega)
          omega
         rw [hX] at h3
         simp only [RowKit.wrap64, IntKind.wrap_i64]
         omega
        have HCE : Hid (∀ W', Below wr.heap.size wr W' → W'.cell? ⟨Q, 0, none⟩ = some (.int .i64 1) ∧ W'.cell? ⟨Q, 10, none⟩ = some (.int .i64 (gp + way)) ∧ W'.cell? ⟨Q, 11, none⟩ = some (.int .i64 0) ∧ W'.cell? ⟨Q, 6, none⟩ = some (.int .i64 wn) ∧ W'.cell? ⟨Q, 13, none⟩ = some (.int .i64 of)) := Lib.hid (fun W' hb => by
         have k1 := (hb.block Q hlQ).trans HNm'.out.blk
         have s1 := HST.out.st
         have s2 := HST.out.g
         exact ⟨heap_cell 0 _ k1 (by rw [HLN.out.eq, ← s1]; rfl), heap_cell 10 _ k1 (by rw [HLN.out.eq, show gp + way = n.g.p by rw [s2]]; rfl), heap_cell 11 _ k1 (by rw [HLN.out.eq, show (0 : Int) = n.g.v by rw [s2]]; rfl), heap_cell 6 _ k1 (by rw [HLN.out.eq, ← hwn]; rfl), heap_cell 13 _ k1 (by rw [HLN.out.eq, ← hof]; rfl)⟩)
        have HON : Hid (∀ W', Below wr.heap.size wr W' → W'.rangeAt Q 0 Ln ∧ (Calls Tryz.prog 15 #[.agg Ln.toArray] W' fun e w' => e = .returned (.int .i64 X) ∧ Below W'.heap.size W' w')) := Lib.hid (fun W' hb => by
         refine ⟨range_of ((hb.block Q hlQ).trans HNm'.out.blk), ?_⟩
         rw [HLN.out.eq]
         have h1 := HXN.out.below hb
         exact aout_at n _ _ _ X W' h1.v.sm h1.inv.smr (by have := h1.inv.win; omega) h1.inv.off hXX.out)
        clear hd hr hwn hof hX hwb hob hwo
        go_upto_region 20 with (fail)
        clear e3 e4
        refine wp_region_held_drew (S := fun w' => Below wr.heap.size wr w') (by kernel_rfl) ?_ (fun hHeld => ?_)
        ·exact (Below.refl _ _).drew
        (refine takeT (i := 0) (v := ?_) rfl ?_ ?_; rotate_left; (focus (intro w' hSw; (try dsimp only at hSw); go_simp; try (with_reducible rfl))))
        (refine takeT (i := 1) (v := ?_) rfl ?_ ?_; rotate_left; (focus (intro w' hSw; (try dsimp only at hSw); have g1 := (HCE.out _ hSw).1; go_simp; try (with_reducible rfl))))
        (refine takeT (i := 2) (v := ?_) rfl ?_ ?_; rotate_left; (focus (intro w' hSw; (try dsimp only at hSw); go_simp; try (with_reducible rfl))); (try simp only [Act.put, List.setIfInBounds_toArray, List.set_cons_zero, List.set_cons_succ]))
        (refine takeT (i := 3) (v := ?_) rfl ?_ ?_; rotate_left; (focus (intro w' hSw; (try dsimp only at hSw); go_simp; try (with_reducible rfl))))
        (refine takeT (i := 4) (v := ?_) rfl ?_ ?_; rotate_left; (focus (intro w' hSw; (try dsimp only at hSw); go_simp; try (with_reducible rfl))))
        (refine takeT (i := 5) (v := ?_) rfl ?_ ?_; rotate_left; (focus (intro w' hSw; (try dsimp only at hSw); have g1 := (HCE.out _ hSw).2.1; have g2 := (HCE.out _ hSw).2.2.1; go_simp; try (with_reducible rfl))); (try simp only [Act.put, List.setIfInBounds_toArray, List.set_cons_zero, List.set_cons_succ]))
        (refine takeT (i := 6) (v := ?_) rfl ?_ ?_; rotate_left; (focus (intro w' hSw; (try dsimp only at hSw); go_simp; try (with_reducible rfl))))
        (refine takeT (i := 7) (v := ?_) rfl ?_ ?_; rotate_left; (focus (intro w' hSw; (try dsimp only at hSw); go_simp; try (with_reducible rfl))))
        (refine takeT (i := 8) (v := ?_) rfl ?_ ?_; rotate_left; (focus (intro w' hSw; (try dsimp only at hSw); go_simp; try (with_reducible rfl))); (try simp only [Act.put, List.setIfInBounds_toArray, List.set_cons_zero, List.set_cons_succ]))
        (refine takeT (i := 9) (v := ?_) rfl ?_ ?_; rotate_left; (focus (intro w' hSw; (try dsimp only at hSw); go_simp; try (with_reducible rfl))))
        (refine takeT (i := 10) (v := ?_) rfl ?_ ?_; rotate_left; (focus (intro w' hSw; (try dsimp only at hSw); go_simp; try (with_reducible rfl))))
        (refine takeH (i := 11) (v := .agg Ln.toArray) rfl (by kernel_rfl) (by kernel_rfl) (by kernel_rfl) (fun _ _ _ h => h) (yieldsIf_load_mid (by kernel_rfl) 35 _ rfl Q 0 rfl Ln _ (fun _ hb => (HON.out _ hb).1) Tryz.underlying35 rfl HLN.out.size) (by assumption) ?_; (try simp only [Act.put, List.setIfInBounds_toArray, List.set_cons_zero, List.set_cons_succ]))
        (refine takeT (i := 13) (v := ?_) rfl ?_ ?_; rotate_left; (focus (intro w' hSw; (try dsimp only at hSw); go_simp; try (with_reducible rfl))))
        (refine takeT (i := 14) (v := ?_) rfl ?_ ?_; rotate_left; (focus (intro w' hSw; (try dsimp only at hSw); have g1 := (HCE.out _ hSw).2.2.2.1; go_simp; try (with_reducible rfl))))
        (refine takeT (i := 15) (v := ?_) rfl ?_ ?_; rotate_left; (focus (intro w' hSw; (try dsimp only at hSw); go_simp; try (with_reducible rfl))); (try simp only [Act.put, List.setIfInBounds_toArray, List.set_cons_zero, List.set_cons_succ]))
        (refine takeT (i := 16) (v := ?_) rfl ?_ ?_; rotate_left; (focus (intro w' hSw; (try dsimp only at hSw); go_simp; try (with_reducible rfl))))
        (refine takeT (i := 17) (v := ?_) rfl ?_ ?_; rotate_left; (focus (intro w' hSw; (try dsimp only at hSw); have g1 := (HCE.out _ hSw).2.2.2.2; go_simp; try (with_reducible rfl))))
        (refine takeT (i := 18) (v := ?_) rfl ?_ ?_; rotate_left; (focus (intro w' hSw; (try dsimp only at hSw); go_simp; try (with_reducible rfl))); (try simp only [Act.put, List.setIfInBounds_toArray, List.set_cons_zero, List.set_cons_succ]))
        (refine takeT (i := 19) (v := ?_) rfl ?_ ?_; rotate_left; (focus (intro w' hSw; (try dsimp only at hSw); go_simp; try (with_reducible rfl))); (try simp only [Act.put, List.setIfInBounds_toArray, List.set_cons_zero, List.set_cons_succ]))
        refine oneH (i := 12) (by kernel_rfl) rfl (fun Kc hK => ?_)
        go_simp
        go_at_call 15; refine (HON.out _ hHeld).2.mono ?_; rintro e w7 ⟨rfl, hb7⟩; (have HB7 := Lib.hid (hHeld.trans (hb7.mono hHeld.size))); clear hb7 hHeld
        go_wp2_with fail
        refine hK.out _ _ (HB7.out) (fun hHeld => ?_)
        clear hK Kc
        (try simp only [Act.put, List.setIfInBounds_toArray, List.set_cons_zero, List.set_cons_succ])
        (refine takeT (i := 20) (v := ?_) rfl ?_ ?_; rotate_left; (focus (intro w' hSw; (try dsimp only at hSw); go_simp; try (with_reducible rfl))))
        (refine takeT (i := 21) (v := ?_) rfl ?_ ?_; rotate_left; (focus (intro w' hSw; (try dsimp only at hSw); go_simp; try (with_reducible rfl))))
        (refine takeT (i := 22) (v := ?_) rfl ?_ ?_; rotate_left; (focus (intro w' hSw; (try dsimp only at hSw); go_simp; try (with_reducible rfl))); (try simp only [Act.put, List.setIfInBounds_toArray, List.set_cons_zero, List.set_cons_succ]))
        refine wpAnyH_done (by kernel_rfl) ?_ _
        (try simp only [Act.put, List.setIfInBounds_toArray, List.set_cons_zero, List.set_cons_succ])
        have HEND := Lib.hid (HBm.out.trans (hHeld.mono HBm.out.size))
        clear hHeld
        go_wp2
        go_ret
        exact ⟨by first | rfl | (simp; done), HEND.out⟩
       ·have HNO : Hid (∀ (j : Nat) (r : RepS), j < q + 1 → rs[j]? = some r → ¬ (r.id = id ∧ r.what = 2)) := Lib.hid (fun j r' hj hr' => by
         by_cases he : j = q
         ·subst he
          rw [hr] at hr'
          injection hr' with hr'
          rw [← hr']
          exact hd
         ·exact HQN.out j r' (by omega) hr')
        obtain ⟨x, hx⟩ : ∃ y, r.id = y := ⟨_, rfl⟩
        obtain ⟨y, hy⟩ : ∃ y, r.what = y := ⟨_, rfl⟩
        rw [hx] at e3 hd
        rw [hy] at e4 hd
        clear hx hy hr
        by_cases h6 : x = id
        ·have f1 : (x == id) = true := by simp [h6]
         have f2 : (y == 2) = false := by
          have : ¬ y = 2 := fun h => hd ⟨h6, h⟩
          simp [this]
         clear h6 hd
         go_wp2
         go_roundw
         case rel => exact ⟨q + 1, by omega, by go_num, HNO, trivial⟩
         case measure => simp [intOf]; omega
        ·have f1 : (x == id) = false := by simp [h6]
         clear h6 hd
         go_wp2
         go_roundw
         case rel => exact ⟨q + 1, by omega, by go_num, HNO, trivial⟩
         case measure => simp [intOf]; omega
      ·obtain rfl : nr9 = q := by omega
       obtain ⟨k1, k2, k3, k4, k5⟩ := HKK.out
       have HNX : Hid (∀ j : INS, j.pw = true → j.op = true → j.cau = 0 → j.plus = false → j.minus = false → j.ov = 100 → InW j → i ≤ 1020 ∧ LandI a id (gp + way) k (i + 1) (cycX n j []).a (cycX n j []).rs) := Lib.hid (fun j j1 j2 j3 j4 j5 j6 j7 => land_next HLm.out (fun r hr => by
        obtain ⟨z, hz⟩ := List.getElem?_of_mem hr
        exact HQN.out z r (by rw [← HNR9.out]; exact (List.getElem?_eq_some_iff.1 hz).1) hz) j k1 k2 j7 k3 k4 k5 j1 j2 j3 j4 j5 j6)
       clear k1 k2 k3 k4 k5 HRC hr1 hr2
       go_wp2_with (first
        | refine wpList_load_row rfl 35 _ rfl Q rfl 35 Ln.toArray (0, 0) _ HNm'.out.blk Tryz.underlying35 rfl HLN.out.size ?_
        | refine wpList_load_row rfl 44 _ rfl J rfl 44 M.toArray (0, 0) _ HJm.out Tryz.underlying44 rfl HM.out.size ?_)
       refine (astep_right HXN.out HLN.out (i := i1) (cs := []) (cv := nilS) ⟨HI1.out.2.2.2.2.2.2, nil_read, fun c hc => by cases hc⟩ (by decide) HM.out).mono ?_
       rintro e w7 ⟨L', rv', rfl, hst⟩
       obtain ⟨N, hN⟩ : ∃ y : WS, cycX n (atD i1 wr) [] = y := ⟨_, rfl⟩
       obtain ⟨hi3, hln⟩ := HNX.out (atD i1 wr) HI1.out.1 HI1.out.2.1 HI1.out.2.2.1 HI1.out.2.2.2.1 HI1.out.2.2.2.2.1 HI1.out.2.2.2.2.2.1 ⟨HI1.out.2.2.2.2.2.2.act, HI1.out.2.2.2.2.2.2.mas⟩
       rw [hN] at hst hln
       have HLN' := Lib.hid hln
       have hb7 := hst.below
       have HQ7 := Lib.hid ((hb7.block Q hlQ).trans HNm'.out.blk)
       have HN2 : Hid (L'.toArray.all (·.oneCell') = true ∧ (Tryz.prog.info? 35).map (·.size) = some L'.length ∧ L'.toArray.size = 26) := by
        obtain ⟨⟨sv1, nv1, wv1, q1, q2, -⟩, -, -⟩ := hst
        exact Lib.hid ⟨AxR.one q1.v q2, q2.size, by rw [q2.eq]; rfl⟩
       have HLS : Hid (Ln.toArray.size = 26) := Lib.hid (by rw [HLN.out.eq]; rfl)
       have HNN := Lib.hid (nvar_pb hst hQ7 HNm'.out.blk)
       have HJJ : Hid ((w7.setRow Q L'.toArray).heap[J]? = some (.cells M.toArray 44)) := Lib.hid ((setRow_other w7 Q J _ (by omega)).trans ((hb7.block J hJr).trans HJm.out))
       have HBN := Lib.hid (below_setRow (HBm.out.trans (hb7.mono HBm.out.size)) (show w.heap.size ≤ Q by have := HBQ.out; omega) L'.toArray)
       clear hN hst hln hb7 HNX HNm' HJm HBm HXN HLm HQN
       go_wp2_with (refine wpList_store_row rfl 35 _ _ rfl Q L'.toArray rfl rfl 35 _ HQ7.out (by rw [List.size_toArray]; exact HN2.out.2.1) (by rw [HLS.out, HN2.out.2.2]) HN2.out.1 ?_)
       go_roundw
       case rel => exact ⟨i + 1, N.a, N.rs, L', rv', by omega, rfl, by go_num, HNN, HJJ, HBN, HLN'⟩
       case measure => simp [intOf]; omega

end Go.Proofs.YtogbhnmkinjpeaaGreat
