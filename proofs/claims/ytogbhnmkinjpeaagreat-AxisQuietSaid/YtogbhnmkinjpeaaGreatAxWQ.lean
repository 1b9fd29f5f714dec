/- Layer 15: AxisQuiet, by the walk. PRINTED by wip/tool/mkaxw.py -/
import Derived.Test.YtogbhnmkinjpeaaGreatM43
namespace Go.Proofs.YtogbhnmkinjpeaaGreat
open Go.RowKit
set_option linter.unusedVariables false
set_option linter.unusedSimpArgs false
attribute [local go_sem] ite_max ite_min vite_max vite_min ext_cell ext_frozen

set_option maxRecDepth 100000 in
set_option maxHeartbeats 8000000 in
theorem quiet_main (a : AX) (sv nv wv : Value) (L : List Value) (hL : AxL a sv nv wv L) (cyc : Int) (hcy : 0 ≤ cyc ∧ cyc ≤ 255) (home : Bool) (w : World) (h : AxV w a sv nv wv) :
  Calls Tryz.prog 5 #[.agg L.toArray, .int .u8 cyc, .bool home] w fun e w' => e = .returned (.bool true) ∧ Below w.heap.size w w' := by
 have HA := Lib.hid h
 have HL := Lib.hid hL
 obtain ⟨r1, hr1⟩ : ∃ r, shortX a [] = r := ⟨_, rfl⟩
 have HSH : Hid (∀ W, Below w.heap.size w W → Calls Tryz.prog 13 #[.agg L.toArray, .agg (inC inZ nilS).toArray] W fun e w' => e = .returned (.bool r1) ∧ Below W.heap.size W w') := Lib.hid (fun W hb => by
  rw [hL.eq]
  exact short15_at a sv nv wv W (h.below hb) inZ [] nilS 0 rfl ⟨_, _, rfl⟩ r1 hr1)
 obtain ⟨r2, hr2⟩ : ∃ r, rightX a = r := ⟨_, rfl⟩
 have HRI : Hid (∀ W, Below w.heap.size w W → Calls Tryz.prog 10 #[.agg L.toArray] W fun e w' => e = .returned (.bool r2) ∧ Below W.heap.size W w') := Lib.hid (fun W hb => aright_L a sv nv wv L r2 W (h.below hb) hL hr2)
 have HR2 := Lib.hid hr2
 clear h hL hr1 hr2
 go_enter Tryz.func5, Tryz.ntmps5
 go_upto_region 1 with (fail)
 refine wp_name fun W hW => ?_
 obtain ⟨B, hB⟩ : ∃ B, B = w.heap.size := ⟨_, rfl⟩
 have HB : Hid (Below w.heap.size w W) := by rw [hW.out]; exact Lib.hid (by exact belowBy)
 have HK : Hid (W.heap[B]? = some (.cells L.toArray 35)) := by
  rw [hW.out, hB]
  exact Lib.hid (heap_alloc_new _ _)
 have HBw := Lib.hid hB
 (try rw [← hB])
 clear hW hB
 go_wp2_with fail
 refine (awake15 _).mono ?_
 rintro e w1 ⟨rfl, hb1⟩
 have hlt : B < W.heap.size := (Array.getElem?_eq_some_iff.1 HK.out).1
 have HB1 := Lib.hid (HB.out.trans (hb1.mono HB.out.size))
 have HK1 := Lib.hid ((hb1.block B hlt).trans HK.out)
 clear hb1 HK HB hlt
 go_upto_region 3 with (fail)
 go_cut [40] from 14 to 40 (fun r wx => ∃ v : Bool, r = .bool v ∧ Hid (Below w.heap.size w wx) ∧ Hid (wx.heap[B]? = some (.cells L.toArray 35)) ∧ Hid (v = false → r2 = true ∧ a.st = 1 ∧ a.ns = [] ∧ a.g.v = 0))
 case first =>
  go_wp2_with (refine wpList_load_row rfl 35 _ rfl B rfl 35 L.toArray (0, 0) _ HK1.out Tryz.underlying35 rfl HL.out.size ?_)
  refine (HSH.out _ HB1.out).mono ?_
  rintro e w2 ⟨rfl, hb2⟩
  have hlt : B < w1.heap.size := (Array.getElem?_eq_some_iff.1 HK1.out).1
  have HB2 := Lib.hid (HB1.out.trans (hb2.mono HB1.out.size))
  have HK2 := Lib.hid ((hb2.block B hlt).trans HK1.out)
  clear hb2 HK1 HB1 hlt
  cases r1
  ·go_wp2
   go_meet
   case rel => exact ⟨true, rfl, HB2, HK2, Lib.hid (fun h => by cases h)⟩
  have hrg := range_of HK2.out
  go_wp2_with (refine wpList_load_midG 35 _ rfl B 0 rfl L _ hrg Tryz.underlying35 rfl HL.out.size (by first | rfl | kernel_rfl) ?_)
  clear hrg
  refine (HRI.out _ HB2.out).mono ?_
  rintro e w3 ⟨rfl, hb3⟩
  have hlt : B < w2.heap.size := (Array.getElem?_eq_some_iff.1 HK2.out).1
  have HB3 := Lib.hid (HB2.out.trans (hb3.mono HB2.out.size))
  have HK3 := Lib.hid ((hb3.block B hlt).trans HK2.out)
  clear hb3 HK2 HB2 hlt
  cases r2
  ·go_wp2
   go_meet
   case rel => exact ⟨true, rfl, HB3, HK3, Lib.hid (fun h => by cases h)⟩
  have c0 : w3.cell? ⟨B, 0, none⟩ = some (.int .i64 a.st) := heap_cell 0 _ HK3.out (by rw [HL.out.eq]; rfl)
  have c11 : w3.cell? ⟨B, 11, none⟩ = some (.int .i64 a.g.v) := heap_cell 11 _ HK3.out (by rw [HL.out.eq]; rfl)
  obtain ⟨p, A1, c1, c14, hp⟩ : ∃ p A1 c1, w3.cell? ⟨B, 14, none⟩ = some (.slice A1 p c1) ∧ p = a.ns.length := by
   obtain ⟨⟨A1, c1, e1, -⟩, -⟩ := LineV.parts HA.out.ln
   refine ⟨_, A1, c1, ?_, rfl⟩
   rw [← e1]
   exact heap_cell 14 _ HK3.out (by rw [HL.out.eq]; rfl)
  have HPN := Lib.hid hp
  clear hp
  by_cases e1 : a.st = 1
  case neg =>
   have f1 : (a.st != 1) = true := by simp [e1]
   clear e1
   go_wp2
   go_meet
   case rel => exact ⟨true, rfl, HB3, HK3, Lib.hid (fun h => by cases h)⟩
  have f1 : (a.st != 1) = false := by simp [e1]
  by_cases e2 : p = 0
  case neg =>
   have f2 : ((p : Int) != 0) = true := by simp [e2]
   clear e1 e2
   go_wp2
   go_meet
   case rel => exact ⟨true, rfl, HB3, HK3, Lib.hid (fun h => by cases h)⟩
  have HN0 : Hid (a.ns = []) := Lib.hid (List.eq_nil_of_length_eq_zero (by rw [← HPN.out]; exact e2))
  subst e2
  have f2 : ((0 : Int) != 0) = false := rfl
  by_cases e3 : a.g.v = 0
  case neg =>
   have f3 : (a.g.v != 0) = true := by simp [e3]
   clear e1 e3
   go_wp2
   go_meet
   case rel => exact ⟨true, rfl, HB3, HK3, Lib.hid (fun h => by cases h)⟩
  have f3 : (a.g.v != 0) = false := by simp [e3]
  have H13 : Hid (a.st = 1 ∧ a.g.v = 0) := Lib.hid ⟨e1, e3⟩
  clear e1 e3
  go_wp2
  go_meet
  case rel => exact ⟨false, rfl, HB3, HK3, Lib.hid (fun _ => ⟨by simp, H13.out.1, HN0.out, H13.out.2⟩)⟩
 case rest =>
  obtain ⟨v, rfl, HB3, HK3, HV⟩ := hcut
  cases v
  case true =>
   go_wp2
   go_ret
   exact ⟨rfl, HB3.out⟩
  case false =>
   obtain ⟨g2, g3⟩ := HV.out rfl
   have HG3 := Lib.hid g3
   have HR : Hid (AxR wc a sv nv wv) := Lib.hid ⟨HA.out.below HB3.out, HR2.out.trans g2⟩
   clear HSH HRI HR2 HA HV g2 g3 HK1 HB1
   obtain ⟨O, hO⟩ : ∃ x, a.ov = x := ⟨_, rfl⟩
   have HQ0 : Hid (Quiet O 0 a) := by rw [← hO]; exact Lib.hid (quiet_start HR.out.inv (good_of HR.out.r) HG3.out.1 HG3.out.2.1 HG3.out.2.2)
   have c21 : wc.cell? ⟨B, 21, none⟩ = some (.int .i64 O) := by rw [← hO]; exact heap_cell 21 _ HK3.out (by rw [HL.out.eq]; rfl)
   obtain ⟨i0, hi0⟩ : ∃ i : INS, i = ⟨true, true, 0, 0, !home, home, home, false, false, O, 0, 0⟩ := ⟨_, rfl⟩
   have HI0 : Hid (i0.pw = true ∧ i0.op = true ∧ i0.cau = 0 ∧ i0.ov = O ∧ InW i0) := by
    rw [hi0]
    exact Lib.hid ⟨rfl, rfl, rfl, rfl, by show I64 0; unfold I64; decide, by show I64 0; unfold I64; decide⟩
   obtain ⟨M, hM⟩ : ∃ M, M = inC i0 nilS := ⟨_, rfl⟩
   have HM : Hid (InL i0 nilS M) := Lib.hid ⟨hM⟩
   have HMe : Hid (M = [.bool true, .bool true, .int .i64 0, .int .i64 0, .bool (!home), .bool home, .bool home, .bool false, .bool false, .int .i64 O, .int .i64 0, .slice none 0 0]) := Lib.hid (by rw [hM, hi0]; rfl)
   have HMO : Hid (M.toArray.all (·.oneCell') = true) := Lib.hid (HM.out.one rfl)
   have hlB0 : B < wc.heap.size := (Array.getElem?_eq_some_iff.1 HK3.out).1
   clear hO hi0 hM
   go_upto_region 6 with (refine wpList_store_row rfl 44 _ _ rfl wc.heap.size M.toArray rfl (by first | rfl | (rw [HMe.out]; rfl)) 44 _ (heap_alloc_new _ _) (by rw [List.size_toArray]; exact HM.out.size) (by rw [HMe.out]; rfl) HMO.out ?_)
   refine wp_name fun W5 hW5 => ?_
   obtain ⟨J, hJ⟩ : ∃ x, x = wc.heap.size := ⟨_, rfl⟩
   have HJ5 : Hid (W5.heap[J]? = some (.cells M.toArray 44)) := by rw [hW5.out, hJ]; exact Lib.hid (setRow_heap _ _ _ _ _ _ (heap_alloc_new _ _))
   have hb5 : Below wc.heap.size wc W5 := by rw [hW5.out]; exact below_setRow (below_new (Below.refl _ _) (Nat.le_refl _) _) (Nat.le_refl _) _
   have HB5 := Lib.hid (HB3.out.trans (hb5.mono HB3.out.size))
   have HK5 := Lib.hid ((hb5.block B hlB0).trans HK3.out)
   have HR5 := Lib.hid (HR.out.below hb5)
   have hBJ : B < J := by rw [hJ]; exact hlB0
   have hlJ : J < W5.heap.size := (Array.getElem?_eq_some_iff.1 HJ5.out).1
   (try rw [← hJ])
   clear hW5 hJ hb5 c21 HB3 HK3 HR hlB0 HMO
   have HSTEP : Hid (∀ (W : World) (n : AX) (sv nv wv : Value) (L : List Value), AxR W n sv nv wv → AxL n sv nv wv L → Calls Tryz.prog 11 #[.agg L.toArray, .agg M.toArray] W fun e w' => ∃ L' rv', e = .returned (.tuple #[.agg L'.toArray, rv']) ∧ StepV W (cycX n (atD i0 W) []).a (cycX n (atD i0 W) []).rs L' rv' w') := Lib.hid (fun W n sv nv wv L hr hL => astep_right (M := M) hr hL (i := i0) (cs := []) (cv := nilS) ⟨HI0.out.2.2.2.2, nil_read, fun c hc => by cases hc⟩ (by decide) HM.out)
   go_wp2_with fail
   go_loopw [8] (fun u wr => ∃ (k : Nat) (m : AX) (sv nv wv : Value) (Lm : List Value), k ≤ 16 ∧ u = .int .i64 k ∧ Hid (AxR wr m sv nv wv) ∧ Hid (AxL m sv nv wv Lm) ∧ Hid (wr.heap[B]? = some (.cells Lm.toArray 35)) ∧ Hid (wr.heap[J]? = some (.cells M.toArray 44)) ∧ Hid (Below w.heap.size w wr) ∧ Hid (Quiet O k m)) (fun u _ => 16 - (intOf u).toNat)
   case atStart => exact ⟨0, a, sv, nv, wv, L, by omega, rfl, HR5, HL, HK5, HJ5, HB5, HQ0⟩
   case round =>
    obtain ⟨k, m, sv, nv, wv, Lm, hk, rfl, HRm, HLm, HKm, HJm, HBm, HQm⟩ := hrel
    by_cases hlk : k < 16
    ·have hk0 : (0 : Int) ≤ (k : Int) := by omega
     have hkn : (k : Int) < 16 := by omega
     have hBr : B < wr.heap.size := (Array.getElem?_eq_some_iff.1 HKm.out).1
     have hJr : J < wr.heap.size := (Array.getElem?_eq_some_iff.1 HJm.out).1
     go_wp2_with (first
      | refine wpList_load_row rfl 35 _ rfl B rfl 35 Lm.toArray (0, 0) _ HKm.out Tryz.underlying35 rfl HLm.out.size ?_
      | refine wpList_load_row rfl 44 _ rfl J rfl 44 M.toArray (0, 0) _ HJm.out Tryz.underlying44 rfl HM.out.size ?_)
     refine (HSTEP.out wr m sv nv wv Lm HRm.out HLm.out).mono ?_
     rintro e w7 ⟨L', rv', rfl, hst⟩
     obtain ⟨N, hN⟩ : ∃ N, (cycX m (atD i0 wr) []).a = N := ⟨_, rfl⟩
     have hq := (quiet_cyc (atD i0 wr) HRm.out.inv (good_of HRm.out.r) HQm.out HI0.out.1 HI0.out.2.1 HI0.out.2.2.1 HI0.out.2.2.2.1).2.2
     rw [hN] at hst hq
     obtain ⟨⟨sv1, nv1, wv1, q1, q2, q3⟩, -, qb⟩ := hst
     have HQ := Lib.hid hq
     have HO := Lib.hid (AxR.one q1.v q2)
     have HZ : Hid (Lm.toArray.size = L'.toArray.size) := Lib.hid (by rw [q2.eq, HLm.out.eq]; rfl)
     have HL' := Lib.hid q2
     have HK7 := Lib.hid ((qb.block B hBr).trans HKm.out)
     have HR7 := Lib.hid (q1.row q3 hBr L'.toArray)
     have HJ7 : Hid ((w7.setRow B L'.toArray).heap[J]? = some (.cells M.toArray 44)) := Lib.hid ((setRow_other w7 B J _ (by omega)).trans ((qb.block J hJr).trans HJm.out))
     have HB7 := Lib.hid (below_setRow (HBm.out.trans (qb.mono HBm.out.size)) (show w.heap.size ≤ B by have := HBw.out; omega) L'.toArray)
     have HKK := Lib.hid (setRow_heap _ _ _ L'.toArray _ _ HK7.out)
     clear hN hq q1 q2 q3 qb HRm HKm HJm HBm HQm hBr hJr
     go_wp2_with (refine wpList_store_row rfl 35 _ _ rfl B L'.toArray rfl rfl 35 _ HK7.out (by rw [List.size_toArray]; exact HL'.out.size) HZ.out HO.out ?_)
     go_roundw
     case rel => exact ⟨k + 1, N, sv1, nv1, wv1, L', by omega, by go_num, HR7, HL', HKK, HJ7, HB7, HQ⟩
     case measure => simp [intOf]; omega
    ·have hk16 : ¬ (k : Int) < 16 := by omega
     have HQS : Hid (∀ i : INS, i.pw = true → i.op = true → i.cau = 0 → i.ov = O → (cycX m i []).a = m ∧ (cycX m i []).rs = []) := Lib.hid (fun i a1 a2 a3 a4 => quiet_same i HRm.out.inv (good_of HRm.out.r) HQm.out (by have h1 := HRm.out.inv.len; have h2 := HRm.out.inv.win; omega) a1 a2 a3 a4)
     clear hk hlk HQm HQ0
     go_wp2_with fail
     have hBr : B < wr.heap.size := (Array.getElem?_eq_some_iff.1 HKm.out).1
     have hJr : J < wr.heap.size := (Array.getElem?_eq_some_iff.1 HJm.out).1
     go_loopw [9] (fun u wx => ∃ k : Nat, k ≤ 256 ∧ u = .int .i64 k ∧ Hid (Below wr.heap.size wr wx)) (fun u _ => 256 - (intOf u).toNat)
     case atStart => exact ⟨0, by omega, rfl, Lib.hid (Below.refl _ _)⟩
     case round =>
      obtain ⟨k, hk, rfl, HX⟩ := hrel
      have hmod : 0 ≤ cyc % 100 ∧ cyc % 100 < 100 := by omega
      by_cases hlt : (k : Int) < cyc % 100
      ·have HKX := Lib.hid ((HX.out.block B hBr).trans HKm.out)
       have HJX := Lib.hid ((HX.out.block J hJr).trans HJm.out)
       have HRX := Lib.hid (HRm.out.below HX.out)
       go_wp2_with (first
        | refine wpList_load_row rfl 35 _ rfl B rfl 35 Lm.toArray (0, 0) _ HKX.out Tryz.underlying35 rfl HLm.out.size ?_
        | refine wpList_load_row rfl 44 _ rfl J rfl 44 M.toArray (0, 0) _ HJX.out Tryz.underlying44 rfl HM.out.size ?_)
       refine (HSTEP.out _ m sv nv wv Lm HRX.out HLm.out).mono ?_
       rintro e w7 ⟨L', rv', rfl, hst⟩
       obtain ⟨e1, e2⟩ := HQS.out (atD i0 _) HI0.out.1 HI0.out.2.1 HI0.out.2.2.1 HI0.out.2.2.2.1
       rw [e1, e2] at hst
       clear e1 e2
       have HB7 := Lib.hid (HX.out.trans (hst.below.mono HX.out.size))
       have hn4 := nvar_pa (zs := (#[.int .i64 0, .int .i64 0, .int .i64 0, .int .i64 0, .int .i64 0, .int .i64 0, .int .i64 0, .int .i64 0, .int .i64 0, .int .i64 0, .int .i64 0, .int .i64 0, .slice none 0 0, .int .i64 0, .slice none 0 0, .slice none 0 0, .bool false, .int .i64 0, .int .i64 0, .int .i64 0, .bool false, .int .i64 0, .int .i64 0, .int .i64 0, .int .i64 0, .bool false] : Array Value)) hst (Nat.le_refl _)
       have hb4 := below_setRow (below_new HB7.out (Nat.le_refl _) (.cells (#[.int .i64 0, .int .i64 0, .int .i64 0, .int .i64 0, .int .i64 0, .int .i64 0, .int .i64 0, .int .i64 0, .int .i64 0, .int .i64 0, .int .i64 0, .int .i64 0, .slice none 0 0, .int .i64 0, .slice none 0 0, .slice none 0 0, .bool false, .int .i64 0, .int .i64 0, .int .i64 0, .bool false, .int .i64 0, .int .i64 0, .int .i64 0, .int .i64 0, .bool false] : Array Value) 35)) HB7.out.size L'.toArray
       have HN2 : Hid (L'.toArray.all (·.oneCell') = true ∧ (Tryz.prog.info? 35).map (·.size) = some L'.length ∧ L'.toArray.size = 26) := by
        obtain ⟨⟨sv1, nv1, wv1, q1, q2, -⟩, -, -⟩ := hst
        exact Lib.hid ⟨AxR.one q1.v q2, q2.size, by rw [q2.eq]; rfl⟩
       have HN4 := Lib.hid hn4
       have HB4 := Lib.hid hb4
       clear hst hn4 hb4 HB7
       go_upto_region 14 with (refine wpList_store_row rfl 35 _ _ rfl w7.heap.size L'.toArray rfl rfl 35 _ (heap_alloc_new _ _) (by rw [List.size_toArray]; exact HN2.out.2.1) (by rw [HN2.out.2.2]; rfl) HN2.out.1 ?_)
       refine wp_name fun W8 hW8 => ?_
       obtain ⟨Q, hQ⟩ : ∃ x, x = w7.heap.size := ⟨_, rfl⟩
       have HN8 := HN4
       rw [← hW8.out, ← hQ] at HN8
       have HB8 := HB4
       rw [← hW8.out] at HB8
       (try rw [← hQ])
       clear hW8 hQ HN4 HB4
       obtain ⟨svq, nvq, wvq, hxq, hlq, -⟩ := HN8.out.ax
       obtain ⟨R, cr, hrv, hr1, hr2, -⟩ := reps_at HN8.out.own
       have hrv' : rv' = .slice R 0 cr := hrv
       subst hrv'
       have HSA : Hid (∀ W', Below W8.heap.size W8 W' → Calls Tryz.prog 14 #[.agg L'.toArray, .agg Lm.toArray] W' fun e w' => e = .returned (.bool true) ∧ Below W'.heap.size W' w') := Lib.hid (fun W' hb => by
        rw [hlq.eq, HLm.out.eq]
        exact same15_at m _ _ _ _ _ _ W' (hxq.below hb).v ((HRm.out.below HB8.out).below hb).v)
       have HBK := Lib.hid HN8.out.blk
       have HLQ := Lib.hid hlq
       have HKY := Lib.hid ((HB8.out.block B hBr).trans HKm.out)
       clear hxq hlq hrv hr1 hr2 HN8 HKX HJX HRX HX HN2
       go_wp2_with (first
        | refine wpList_load_row rfl 35 _ rfl B rfl 35 Lm.toArray (0, 0) _ HKY.out Tryz.underlying35 rfl HLm.out.size ?_
        | refine wpList_load_row rfl 35 _ rfl Q rfl 35 L'.toArray (0, 0) _ HBK.out Tryz.underlying35 rfl HLQ.out.size ?_)
       refine (HSA.out _ (Below.refl _ _)).mono ?_
       rintro e w9 ⟨rfl, hb9⟩
       have HB9 := Lib.hid (HB8.out.trans (hb9.mono HB8.out.size))
       clear hb9 HB8 HSA HBK HLQ HKY
       go_wp2
       go_roundw
       case rel => exact ⟨k + 1, by omega, by go_num, HB9⟩
       case measure => simp [intOf]; omega
      ·have HEND := Lib.hid (HBm.out.trans (HX.out.mono HBm.out.size))
       go_wp2
       go_ret
       exact ⟨rfl, HEND.out⟩

end Go.Proofs.YtogbhnmkinjpeaaGreat
