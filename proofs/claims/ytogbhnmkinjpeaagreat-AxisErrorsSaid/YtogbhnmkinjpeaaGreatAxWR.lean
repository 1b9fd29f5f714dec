/- Layer 15: AxisErrors, by the walk. PRINTED by wip/tool/mkaxw.py -/
import Derived.Test.YtogbhnmkinjpeaaGreatM43
namespace Go.Proofs.YtogbhnmkinjpeaaGreat
open Go.RowKit
set_option linter.unusedVariables false
set_option linter.unusedSimpArgs false
attribute [local go_sem] ite_max ite_min vite_max vite_min ext_cell ext_frozen

set_option maxRecDepth 100000 in
set_option maxHeartbeats 8000000 in
theorem errors_main (a : AX) (sv nv wv : Value) (L : List Value) (hL : AxL a sv nv wv L) (A : Option Addr) (n cap : Nat) (ins : List InX) (hn : ins.length = n) (cause : Int) (w : World) (h : AxV w a sv nv wv) (hl : SliceAt 12 InX.cells (InG w) w (.slice A n cap) ins) :
  Calls Tryz.prog 4 #[.agg L.toArray, .int .i64 cause, .slice A n cap] w fun e w' => e = .returned (.bool true) ∧ Below w.heap.size w w' := by
 have h1 : n ≤ cap := by
  obtain ⟨A', c', e, h1, -⟩ := hl
  injection e with e1 e2 e3
  omega
 have h2 : cap ≤ 9223372036854775807 := by
  obtain ⟨A', c', e, h1, h2, -⟩ := hl
  injection e with e1 e2 e3
  omega
 have HA := Lib.hid h
 have HL := Lib.hid hL
 have HI := Lib.hid hl
 have HN := Lib.hid hn
 have HX : Hid (∀ k, k < n → ∃ b off x, A = some ⟨b, off, none⟩ ∧ b < w.heap.size ∧ ins[k]? = some x ∧ InG w x ∧ ∀ W, Below w.heap.size w W → W.rangeAt b (off + k * 12) x.cells) := Lib.hid (fun k hk => ins_at hl k (by omega))
 obtain ⟨r1, hr1⟩ : ∃ r, shortL a ins = r := ⟨_, rfl⟩
 have HSH : Hid (∀ W, Below w.heap.size w W → SliceAt 12 InX.cells (InG W) W (.slice A n cap) ins → Calls Tryz.prog 9 #[.agg L.toArray, .slice A n cap] W fun e w' => e = .returned (.bool r1) ∧ Below W.heap.size W w') := Lib.hid (fun W hb hl' => shorts_at a sv nv wv W (h.below hb) L hL ins _ hl' r1 hr1)
 obtain ⟨r2, hr2⟩ : ∃ r, rightX a = r := ⟨_, rfl⟩
 have HRI : Hid (∀ W, Below w.heap.size w W → Calls Tryz.prog 10 #[.agg L.toArray] W fun e w' => e = .returned (.bool r2) ∧ Below W.heap.size W w') := Lib.hid (fun W hb => aright_L a sv nv wv L r2 W (h.below hb) hL hr2)
 have HR1 := Lib.hid hr1
 have HR2 := Lib.hid hr2
 have HIB : Hid (∀ W, Below w.heap.size w W → SliceAt 12 InX.cells (InG W) W (.slice A n cap) ins) := Lib.hid (fun W hb => ins_below hl hb)
 clear h hL hl hn hr1 hr2
 go_enter Tryz.func4, Tryz.ntmps4
 go_upto_region 1 with (fail)
 refine wp_name fun W hW => ?_
 obtain ⟨B, hB⟩ : ∃ B, B = w.heap.size := ⟨_, rfl⟩
 have HB : Hid (Below w.heap.size w W) := by rw [hW.out]; exact Lib.hid (by exact belowBy)
 have HK : Hid (W.heap[B]? = some (.cells L.toArray 35)) := by
  rw [hW.out, hB]
  exact Lib.hid (heap_alloc_new _ _)
 have HBw := Lib.hid hB
 (try rw [← hB])
 clear hW hB
 go_wp2_with fail
 refine (awake15 _).mono ?_
 rintro e w1 ⟨rfl, hb1⟩
 have hlt : B < W.heap.size := (Array.getElem?_eq_some_iff.1 HK.out).1
 have HB1 := Lib.hid (HB.out.trans (hb1.mono HB.out.size))
 have HK1 := Lib.hid ((hb1.block B hlt).trans HK.out)
 clear hb1 HK HB hlt
 go_upto_region 3 with (fail)
 go_cut [35] from 18 to 35 (fun r wx => ∃ v : Bool, r = .bool v ∧ Hid (Below w.heap.size w wx) ∧ Hid (wx.heap[B]? = some (.cells L.toArray 35)) ∧ Hid (v = false → r1 = true ∧ r2 = true ∧ a.st ≠ 0 ∧ cause ≠ 0))
 case first =>
  go_wp2_with (refine wpList_load_row rfl 35 _ rfl B rfl 35 L.toArray (0, 0) _ HK1.out Tryz.underlying35 rfl HL.out.size ?_)
  refine (HSH.out _ HB1.out (HIB.out _ HB1.out)).mono ?_
  rintro e w2 ⟨rfl, hb2⟩
  have hlt : B < w1.heap.size := (Array.getElem?_eq_some_iff.1 HK1.out).1
  have HB2 := Lib.hid (HB1.out.trans (hb2.mono HB1.out.size))
  have HK2 := Lib.hid ((hb2.block B hlt).trans HK1.out)
  clear hb2 HK1 HB1 hlt
  cases r1
  ·go_wp2
   go_meet
   case rel => exact ⟨true, rfl, HB2, HK2, Lib.hid (fun h => by cases h)⟩
  have hrg := range_of HK2.out
  go_wp2_with (refine wpList_load_midG 35 _ rfl B 0 rfl L _ hrg Tryz.underlying35 rfl HL.out.size (by first | rfl | kernel_rfl) ?_)
  clear hrg
  refine (HRI.out _ HB2.out).mono ?_
  rintro e w3 ⟨rfl, hb3⟩
  have hlt : B < w2.heap.size := (Array.getElem?_eq_some_iff.1 HK2.out).1
  have HB3 := Lib.hid (HB2.out.trans (hb3.mono HB2.out.size))
  have HK3 := Lib.hid ((hb3.block B hlt).trans HK2.out)
  clear hb3 HK2 HB2 hlt
  cases r2
  ·go_wp2
   go_meet
   case rel => exact ⟨true, rfl, HB3, HK3, Lib.hid (fun h => by cases h)⟩
  have c0 : w3.cell? ⟨B, 0, none⟩ = some (.int .i64 a.st) := heap_cell 0 _ HK3.out (by rw [HL.out.eq]; rfl)
  by_cases e1 : a.st = 0
  ·have f1 : (a.st == 0) = true := by simp [e1]
   clear e1
   go_wp2
   go_meet
   case rel => exact ⟨true, rfl, HB3, HK3, Lib.hid (fun h => by cases h)⟩
  have f1 : (a.st == 0) = false := by simp [e1]
  by_cases e2 : cause = 0
  ·have f2 : (cause == 0) = true := by simp [e2]
   clear e1 e2
   go_wp2
   go_meet
   case rel => exact ⟨true, rfl, HB3, HK3, Lib.hid (fun h => by cases h)⟩
  have f2 : (cause == 0) = false := by simp [e2]
  have HE12 : Hid (a.st ≠ 0 ∧ cause ≠ 0) := Lib.hid ⟨e1, e2⟩
  clear e1 e2
  go_wp2
  go_meet
  case rel => exact ⟨false, rfl, HB3, HK3, Lib.hid (fun _ => ⟨by simp, by simp, HE12.out⟩)⟩
 case rest =>
  obtain ⟨v, rfl, HB3, HK3, HV⟩ := hcut
  cases v
  case true =>
   go_wp2
   go_ret
   exact ⟨rfl, HB3.out⟩
  case false =>
   obtain ⟨g1, g2, g3⟩ := HV.out rfl
   have HG3 := Lib.hid g3
   have HR : Hid (AxR wc a sv nv wv) := Lib.hid ⟨HA.out.below HB3.out, HR2.out.trans g2⟩
   have HLIM : Hid (∀ (k : Nat) (x : InX), ins[k]? = some x → x.cs.length ≤ 20) := Lib.hid (fun k x hx => by
    have h1 := HR1.out.trans g1
    unfold shortL at h1
    simp only [Bool.and_eq_true, List.all_eq_true] at h1
    have h2 := of_decide_eq_true (h1.2 x (List.mem_of_getElem? hx))
    exact h2.2.2.2)
   have HSTEP : Hid (∀ (x : InX) (W : World) (n : AX) (sv nv wv : Value) (L : List Value), AxR W n sv nv wv → AxL n sv nv wv L → InG W x → x.cs.length ≤ 20 → Calls Tryz.prog 11 #[.agg L.toArray, .agg x.cells.toArray] W fun e w' => ∃ L' rv', e = .returned (.tuple #[.agg L'.toArray, rv']) ∧ StepV W (cycX n (atD x.i W) x.cs).a (cycX n (atD x.i W) x.cs).rs L' rv' w') := Lib.hid (fun x W n sv nv wv L hr hL hg hx => astep_right hr hL hg hx (inL_of x))
   clear HSH HRI HR1 HR2 HA HV g1 g2 g3 HK1 HB1
   obtain ⟨p, A1, c1, q, A2, c2, hP⟩ : ∃ p A1 c1 q A2 c2, (p = a.ns.length ∧ q = a.ws.length) ∧ (wc.cell? ⟨B, 14, none⟩ = some (.slice A1 p c1) ∧ wc.cell? ⟨B, 15, none⟩ = some (.slice A2 q c2)) ∧ p ≤ 1 ∧ q ≤ 4 := by
    obtain ⟨⟨A1, c1, e1, -⟩, ⟨A2, c2, e2, -⟩⟩ := LineV.parts HR.out.v.ln
    obtain ⟨l1, l2, -, -⟩ := lineB_yes HR.out.inv.line
    refine ⟨_, A1, c1, _, A2, c2, ⟨rfl, rfl⟩, ⟨?_, ?_⟩, l1, l2⟩
    ·rw [← e1]
     exact heap_cell 14 _ HK3.out (by rw [HL.out.eq]; rfl)
    ·rw [← e2]
     exact heap_cell 15 _ HK3.out (by rw [HL.out.eq]; rfl)
   obtain ⟨⟨hp1, hp2⟩, ⟨c14, c15⟩, hp3, hp4⟩ := hP
   have HPQ : Hid (p = a.ns.length ∧ q = a.ws.length) := Lib.hid ⟨hp1, hp2⟩
   clear hp1 hp2
   have hsum : IntKind.i64.wrap ((p : Int) + (q : Int)) = ((p + q : Nat) : Int) := by
    simp only [RowKit.wrap64, IntKind.wrap_i64]
    omega
   have hlB0 : B < wc.heap.size := (Array.getElem?_eq_some_iff.1 HK3.out).1
   obtain ⟨gp, hgp⟩ : ∃ x, a.g.p = x := ⟨_, rfl⟩
   have c10 : wc.cell? ⟨B, 10, none⟩ = some (.int .i64 gp) := by rw [← hgp]; exact heap_cell 10 _ HK3.out (by rw [HL.out.eq]; rfl)
   have HGP : Hid (I64 gp) := by rw [← hgp]; exact Lib.hid HR.out.v.pos
   clear hgp
   go_wp2_with (refine wpList_load_row rfl 35 _ rfl B rfl 35 L.toArray (0, 0) _ HK3.out Tryz.underlying35 rfl HL.out.size ?_)
   refine (astep_right (M := inC (inE cause gp) nilS) HR.out HL.out (i := inE cause gp) (cs := []) (cv := nilS) ⟨⟨HGP.out, by show I64 0; unfold I64; decide⟩, nil_read, fun c hc => by cases hc⟩ (by decide) ⟨rfl⟩).mono ?_
   rintro e w4 ⟨L2, rv2, rfl, hst⟩
   obtain ⟨N0, hN0⟩ : ∃ x : WS, cycX a (atD (inE cause gp) wc) [] = x := ⟨_, rfl⟩
   have hec := err_cyc (good_of HR.out.r) (atD (inE cause gp) wc) HG3.out.1 HG3.out.2
   rw [hN0] at hst hec
   have HEC : Hid (N0.a.st = 7 ∧ (a.st ≠ 7 → N0.a.cau = cause ∧ N0.rs.length = a.ns.length + a.ws.length ∧ N0.a.ns = [])) := Lib.hid hec
   have hn4 := nvar_pa (zs := (#[.int .i64 0, .int .i64 0, .int .i64 0, .int .i64 0, .int .i64 0, .int .i64 0, .int .i64 0, .int .i64 0, .int .i64 0, .int .i64 0, .int .i64 0, .int .i64 0, .slice none 0 0, .int .i64 0, .slice none 0 0, .slice none 0 0, .bool false, .int .i64 0, .int .i64 0, .int .i64 0, .bool false, .int .i64 0, .int .i64 0, .int .i64 0, .int .i64 0, .bool false] : Array Value)) hst (Nat.le_refl _)
   have hb4 : Below wc.heap.size wc (((w4.alloc (.cells (#[.int .i64 0, .int .i64 0, .int .i64 0, .int .i64 0, .int .i64 0, .int .i64 0, .int .i64 0, .int .i64 0, .int .i64 0, .int .i64 0, .int .i64 0, .int .i64 0, .slice none 0 0, .int .i64 0, .slice none 0 0, .slice none 0 0, .bool false, .int .i64 0, .int .i64 0, .int .i64 0, .bool false, .int .i64 0, .int .i64 0, .int .i64 0, .int .i64 0, .bool false] : Array Value) 35)).setRow w4.heap.size L2.toArray)) := below_setRow (below_new (hst.below) (Nat.le_refl _) _) hst.below.size _
   have HN2 : Hid (L2.toArray.all (·.oneCell') = true ∧ (Tryz.prog.info? 35).map (·.size) = some L2.length ∧ L2.toArray.size = 26) := by
    obtain ⟨⟨sv1, nv1, wv1, q1, q2, -⟩, -, -⟩ := hst
    exact Lib.hid ⟨AxR.one q1.v q2, q2.size, by rw [q2.eq]; rfl⟩
   have HN4 := Lib.hid hn4
   have HB4 := Lib.hid hb4
   clear hst hec hN0 hn4 hb4 c14 c15 c10
   go_upto_region 7 with (refine wpList_store_row rfl 35 _ _ rfl w4.heap.size L2.toArray rfl rfl 35 _ (heap_alloc_new _ _) (by rw [List.size_toArray]; exact HN2.out.2.1) (by rw [HN2.out.2.2]; rfl) HN2.out.1 ?_)
   refine wp_name fun W5 hW5 => ?_
   obtain ⟨Q0, hQ0⟩ : ∃ x, x = w4.heap.size := ⟨_, rfl⟩
   have HN5 : Hid (NVar wc.heap.size N0.a N0.rs L2 rv2 Q0 W5) := by rw [hW5.out, hQ0]; exact HN4
   have HB5 : Hid (Below wc.heap.size wc W5) := by rw [hW5.out]; exact HB4
   (try rw [← hQ0])
   clear hW5 hQ0 HN4 HB4
   have HKB := Lib.hid ((HB5.out.block B hlB0).trans HK3.out)
   obtain ⟨R, cr, hrv, hr1, hr2, -⟩ := reps_at HN5.out.own
   obtain ⟨nr, hnr⟩ : ∃ x, N0.rs.length = x := ⟨_, rfl⟩
   rw [hnr] at hrv hr1
   have HNR := Lib.hid hnr
   subst hrv
   clear hnr
   obtain ⟨svq, nvq, wvq, hxq, hlq, -⟩ := HN5.out.ax
   obtain ⟨⟨A3, c3, e3, -⟩, -⟩ := LineV.parts hxq.v.ln
   obtain ⟨p3, hp3'⟩ : ∃ x, N0.a.ns.length = x := ⟨_, rfl⟩
   rw [hp3'] at e3
   have q0 : W5.cell? ⟨Q0, 0, none⟩ = some (.int .i64 7) := heap_cell 0 _ HN5.out.blk (by rw [hlq.eq, ← HEC.out.1]; rfl)
   have q14 : W5.cell? ⟨Q0, 14, none⟩ = some (.slice A3 p3 c3) := heap_cell 14 _ HN5.out.blk (by rw [hlq.eq, ← e3]; rfl)
   have q24 : W5.cell? ⟨Q0, 24, none⟩ = some (.int .i64 N0.a.cau) := heap_cell 24 _ HN5.out.blk (by rw [hlq.eq]; rfl)
   have b0 : W5.cell? ⟨B, 0, none⟩ = some (.int .i64 a.st) := heap_cell 0 _ HKB.out (by rw [HL.out.eq]; rfl)
   have HEC7 : Hid (a.st ≠ 7 → N0.a.cau = cause ∧ nr = p + q ∧ p3 = 0) := Lib.hid (fun h => by
    obtain ⟨g1, g2, g3⟩ := HEC.out.2 h
    refine ⟨g1, ?_, ?_⟩
    ·rw [← HNR.out, g2, HPQ.out.1, HPQ.out.2]
    ·rw [← hp3', g3]; rfl)
   obtain ⟨cq, hcq⟩ : ∃ x, N0.a.cau = x := ⟨_, rfl⟩
   rw [hcq] at q24 HEC7
   clear hxq hlq e3 hp3' hcq
   go_cut [81] from 55 to 81 (fun r wx => r = .bool false ∧ wx = W5)
   case first =>
    by_cases h7 : a.st = 7
    ·have f7 : (a.st != 7) = false := by simp [h7]
     clear h7
     go_wp2
     go_meet
     case rel => exact ⟨by first | (simp; done) | (simp; omega), rfl⟩
    ·obtain ⟨g1, g2, g3⟩ := HEC7.out h7
     have f7 : (a.st != 7) = true := by simp [h7]
     subst g1 g2 g3
     have f8 : (cq != cq) = false := by simp
     have f9 : (((p + q : Nat) : Int) != (p : Int) + (q : Int)) = false := by simp
     clear h7
     go_wp2
     go_meet
     case rel => exact ⟨by first | (simp; done) | (simp; omega), rfl⟩
   case rest =>
    obtain ⟨rfl, rfl⟩ := hcut
    obtain ⟨r1, sv5, nv5, wv5, r2, r3⟩ := HN5.out.move (P := B) hlB0 HKB.out
    have HR6 := Lib.hid r1
    have HX6 := Lib.hid r2
    have HL6 := Lib.hid r3
    have HO := Lib.hid (AxR.one r2.v r3)
    have HZ : Hid (L.toArray.size = L2.toArray.size) := Lib.hid (by rw [r3.eq, HL.out.eq]; rfl)
    have HBB := Lib.hid (below_setRow (HB3.out.trans (HB5.out.mono HB3.out.size)) (show w.heap.size ≤ B by have := HBw.out; omega) L2.toArray)
    have HBK := Lib.hid HN5.out.blk
    have HST7 := Lib.hid HEC.out.1
    clear r1 r2 r3 HN5 HB5 q0 q14 q24 b0 HEC HEC7 HPQ HR HN2
    go_wp2_with (first
     | refine wpList_load_row rfl 35 _ rfl Q0 rfl 35 L2.toArray (0, 0) _ HBK.out Tryz.underlying35 rfl HL6.out.size ?_
     | refine wpList_store_row rfl 35 _ _ rfl B L2.toArray rfl rfl 35 _ HKB.out (by rw [List.size_toArray]; exact HL6.out.size) HZ.out HO.out ?_)
    clear HBK HKB HO HZ HK3 HB3
    go_loopw [10] (fun u wr => ∃ (k : Nat) (m : AX) (sv nv wv : Value) (Lm : List Value), k ≤ n ∧ u = .int .i64 k ∧ Hid (AxR wr m sv nv wv) ∧ Hid (AxL m sv nv wv Lm) ∧ Hid (wr.heap[B]? = some (.cells Lm.toArray 35)) ∧ Hid (Below w.heap.size w wr) ∧ Hid (m.st = 7)) (fun u _ => n - (intOf u).toNat)
    case atStart => exact ⟨0, N0.a, sv5, nv5, wv5, L2, by omega, rfl, HX6, HL6, HR6, HBB, HST7⟩
    case round =>
     obtain ⟨k, m, sv, nv, wv, Lm, hk, rfl, HRm, HLm, HKm, HBm, HS7⟩ := hrel
     by_cases hlk : k < n
     ·obtain ⟨b, off, x, rfl, hb, hxk, hg, hrg⟩ := HX.out k hlk
      have hk0 : (0 : Int) ≤ (k : Int) := by omega
      have hkn : (k : Int) < (n : Int) := by omega
      have hBr : B < wr.heap.size := (Array.getElem?_eq_some_iff.1 HKm.out).1
      have HRG : Hid (∀ W', Below wr.heap.size wr W' → W'.rangeAt b (off + k * 12) x.cells ∧ W'.rangeAt B 0 Lm) := Lib.hid (fun W' hb' =>
       ⟨hrg W' (HBm.out.trans (hb'.mono HBm.out.size)), range_of ((hb'.block B hBr).trans HKm.out)⟩)
      have HSX : Hid (∀ W', Below wr.heap.size wr W' → Calls Tryz.prog 11 #[.agg Lm.toArray, .agg x.cells.toArray] W' fun e w' => ∃ L' rv', e = .returned (.tuple #[.agg L'.toArray, rv']) ∧ StepV W' (cycX m (atD x.i W') x.cs).a (cycX m (atD x.i W') x.cs).rs L' rv' w') := Lib.hid (fun W' hb' =>
       HSTEP.out x W' m sv nv wv Lm (HRm.out.below hb') HLm.out (hg.below (HBm.out.trans (hb'.mono HBm.out.size))) (HLIM.out k x hxk))
      have HIX := Lib.hid (inL_of x)
      have HXG := Lib.hid hg
      have HXR := Lib.hid hrg
      clear hb hxk hg hrg
      obtain ⟨M, hM⟩ : ∃ M, x.cells = M := ⟨_, rfl⟩
      rw [hM] at HRG HSX HIX HXR
      clear hM
      go_upto_region 13 with (fail)
      go_cut [11, 12] from 89 to 97 (fun r6 r7 wx => ∃ (Q : Nat) (N : AX) (rs : List RepS) (L' : List Value) (rv' : Value), r6 = .pointer (some ⟨Q, 0, none⟩) ∧ r7 = rv' ∧ Hid (NVar wr.heap.size N rs L' rv' Q wx) ∧ Hid (Below wr.heap.size wr wx) ∧ Hid (∃ W' : World, N = (cycX m (atD x.i W') x.cs).a ∧ rs = (cycX m (atD x.i W') x.cs).rs))
      case first =>
       refine wp_region_held_drew (S := fun w' => Below wr.heap.size wr w') (by kernel_rfl) ?_ (fun hHeld => ?_)
       ·exact (Below.refl _ _).drew
       (refine takeH (i := 0) (v := .agg Lm.toArray) rfl (by kernel_rfl) (by kernel_rfl) (by kernel_rfl) (fun _ _ _ h => h) (yieldsIf_load_mid (by kernel_rfl) 35 _ rfl B 0 rfl Lm _ (fun _ hb => (HRG.out _ hb).2) Tryz.underlying35 rfl HLm.out.size) (by assumption) ?_)
       (refine takeT (i := 1) (v := ?_) rfl ?_ ?_; rotate_left; (focus (intro w' hSw; (try dsimp only at hSw); go_simp; try (with_reducible rfl))))
       (refine takeT (i := 2) (v := ?_) rfl ?_ ?_; rotate_left; (focus (intro w' hSw; (try dsimp only at hSw); go_simp; try (with_reducible rfl))); (try simp only [Act.put, List.setIfInBounds_toArray, List.set_cons_zero, List.set_cons_succ]))
       (refine takeT (i := 3) (v := ?_) rfl ?_ ?_; rotate_left; (focus (intro w' hSw; (try dsimp only at hSw); go_simp; try (with_reducible rfl))))
       (refine takeH (i := 4) (v := .agg M.toArray) rfl (by kernel_rfl) (by kernel_rfl) (by kernel_rfl) (fun _ _ _ h => h) (yieldsIf_load_mid (by kernel_rfl) 44 _ rfl b (off + k * 12) rfl M _ (fun _ hb => (HRG.out _ hb).1) Tryz.underlying44 rfl HIX.out.size) (by assumption) ?_; (try simp only [Act.put, List.setIfInBounds_toArray, List.set_cons_zero, List.set_cons_succ]))
       refine twoX (i := 5) (j := 9) (by kernel_rfl) rfl rfl (fun Kc hK => ?_) (fun Kc hK => ?_)
       ·go_simp
        go_at_call 11
        refine (HSX.out _ hHeld).mono ?_
        rintro e w7 ⟨L', rv', rfl, hst⟩
        have HST := Lib.hid hst
        have hb7 : Below wr.heap.size wr w7 := hHeld.trans (hst.below.mono hHeld.size)
        have hsz : wr.heap.size ≤ wr.drew.heap.size := hHeld.size
        have HN' : Hid (L'.toArray.all (·.oneCell') = true ∧ (Tryz.prog.info? 35).map (·.size) = some L'.length ∧ L'.toArray.size = 26) := by
         obtain ⟨⟨sv1, nv1, wv1, q1, q2, -⟩, -, -⟩ := hst
         exact Lib.hid ⟨AxR.one q1.v q2, q2.size, by rw [q2.eq]; rfl⟩
        clear hst hHeld
        go_wp2_with fail
        refine hK.out _ _ hb7 (fun hHeld => ?_)
        clear hK Kc
        (try simp only [Act.put, List.setIfInBounds_toArray, List.set_cons_zero, List.set_cons_succ])
        (refine takeT (i := 6) (v := ?_) rfl ?_ ?_; rotate_left; (focus (intro w' hSw; (try dsimp only at hSw); go_simp; try (with_reducible rfl))))
        (refine takeT (i := 7) (v := ?_) rfl ?_ ?_; rotate_left; (focus (intro w' hSw; (try dsimp only at hSw); go_simp; try (with_reducible rfl))))
        (refine takeT (i := 8) (v := ?_) rfl ?_ ?_; rotate_left; (focus (intro w' hSw; (try dsimp only at hSw); go_simp; try (with_reducible rfl))); (try simp only [Act.put, List.setIfInBounds_toArray, List.set_cons_zero, List.set_cons_succ]))
        refine oneH (i := 9) (by kernel_rfl) rfl (fun Kc hK => ?_)
        go_simp
        refine hK.out _ _ (below_new hHeld (Nat.le_refl _) _) (fun hHeld => ?_)
        clear hK Kc
        (try simp only [Act.put, List.setIfInBounds_toArray, List.set_cons_zero, List.set_cons_succ])
        refine oneRow (i := 10) (by kernel_rfl) rfl (by kernel_rfl) 35 _ _ rfl w7.heap.size L'.toArray rfl rfl _ _ (heap_alloc_new _ _) (by rw [List.size_toArray]; exact HN'.out.2.1) (by rw [HN'.out.2.2]; rfl) HN'.out.1 (below_setRow hHeld hb7.size _) ?_
        (try simp only [Act.put, List.setIfInBounds_toArray, List.set_cons_zero, List.set_cons_succ])
        have HF := Lib.hid (below_setRow hHeld hb7.size L'.toArray)
        replace hHeld := HF.out
        (refine takeT (i := 11) (v := ?_) rfl ?_ ?_; rotate_left; (focus (intro w' hSw; (try dsimp only at hSw); go_simp; try (with_reducible rfl))); (try simp only [Act.put, List.setIfInBounds_toArray, List.set_cons_zero, List.set_cons_succ]))
        refine wpAnyH_done (by kernel_rfl) ?_ _
        (try simp only [Act.put, List.setIfInBounds_toArray, List.set_cons_zero, List.set_cons_succ])
        clear hHeld hb7 HN'
        go_wp2
        go_meet
        case rel => exact ⟨w7.heap.size, _, _, L', rv', rfl, rfl, Lib.hid (nvar_pa HST.out hsz), HF, Lib.hid ⟨_, rfl, rfl⟩⟩
       ·go_simp
        refine hK.out _ _ (below_new hHeld (Nat.le_refl _) _) (fun hHeld => ?_)
        clear hK Kc
        (try simp only [Act.put, List.setIfInBounds_toArray, List.set_cons_zero, List.set_cons_succ])
        refine oneH (i := 5) (by kernel_rfl) rfl (fun Kc hK => ?_)
        go_simp
        go_at_call 11
        refine (HSX.out _ hHeld).mono ?_
        rintro e w7 ⟨L', rv', rfl, hst⟩
        have HST := Lib.hid hst
        have HQ7 := Lib.hid (hst.below.block wr.heap.size (by simp))
        have hb7 : Below wr.heap.size wr w7 := hHeld.trans (hst.below.mono hHeld.size)
        have HN' : Hid (L'.toArray.all (·.oneCell') = true ∧ (Tryz.prog.info? 35).map (·.size) = some L'.length ∧ L'.toArray.size = 26) := by
         obtain ⟨⟨sv1, nv1, wv1, q1, q2, -⟩, -, -⟩ := hst
         exact Lib.hid ⟨AxR.one q1.v q2, q2.size, by rw [q2.eq]; rfl⟩
        clear hst hHeld
        go_wp2_with fail
        refine hK.out _ _ hb7 (fun hHeld => ?_)
        clear hK Kc
        (try simp only [Act.put, List.setIfInBounds_toArray, List.set_cons_zero, List.set_cons_succ])
        (refine takeT (i := 6) (v := ?_) rfl ?_ ?_; rotate_left; (focus (intro w' hSw; (try dsimp only at hSw); go_simp; try (with_reducible rfl))))
        (refine takeT (i := 7) (v := ?_) rfl ?_ ?_; rotate_left; (focus (intro w' hSw; (try dsimp only at hSw); go_simp; try (with_reducible rfl))))
        (refine takeT (i := 8) (v := ?_) rfl ?_ ?_; rotate_left; (focus (intro w' hSw; (try dsimp only at hSw); go_simp; try (with_reducible rfl))); (try simp only [Act.put, List.setIfInBounds_toArray, List.set_cons_zero, List.set_cons_succ]))
        refine oneRow (i := 10) (by kernel_rfl) rfl (by kernel_rfl) 35 _ _ rfl wr.heap.size L'.toArray rfl rfl _ _ (HQ7.out.trans (heap_alloc_new _ _)) (by rw [List.size_toArray]; exact HN'.out.2.1) (by rw [HN'.out.2.2]; rfl) HN'.out.1 (below_setRow hHeld (Nat.le_refl _) _) ?_
        (try simp only [Act.put, List.setIfInBounds_toArray, List.set_cons_zero, List.set_cons_succ])
        have HF := Lib.hid (below_setRow hHeld (Nat.le_refl _) L'.toArray)
        replace hHeld := HF.out
        (refine takeT (i := 11) (v := ?_) rfl ?_ ?_; rotate_left; (focus (intro w' hSw; (try dsimp only at hSw); go_simp; try (with_reducible rfl))); (try simp only [Act.put, List.setIfInBounds_toArray, List.set_cons_zero, List.set_cons_succ]))
        refine wpAnyH_done (by kernel_rfl) ?_ _
        (try simp only [Act.put, List.setIfInBounds_toArray, List.set_cons_zero, List.set_cons_succ])
        clear hHeld hb7 HN'
        go_wp2
        go_meet
        case rel => exact ⟨wr.heap.size, _, _, L', rv', rfl, rfl, Lib.hid (nvar_pb HST.out (Nat.le_refl _) (heap_alloc_new _ _)), HF, Lib.hid ⟨_, rfl, rfl⟩⟩
      case rest =>
       obtain ⟨Q, N, rs, L', rv', rfl, rfl, HNV, HBQ, HE⟩ := hcut
       have HKc := Lib.hid ((HBQ.out.block B hBr).trans HKm.out)
       have HBw' : Hid (w.heap.size ≤ wr.heap.size) := Lib.hid HBm.out.size
       have hlQ := HNV.out.lt
       have hlB : B < wc.heap.size := (Array.getElem?_eq_some_iff.1 HKc.out).1
       obtain ⟨svN, nvN, wvN, hrN, hlN, -⟩ := HNV.out.ax
       have HRN := Lib.hid hrN
       have HLN := Lib.hid hlN
       clear hrN hlN
       obtain ⟨R9, cr9, hrv, hr1, hr2, hrc⟩ := reps_at HNV.out.own
       obtain ⟨nr9, hnr⟩ : ∃ x, rs.length = x := ⟨_, rfl⟩
       rw [hnr] at hrv hr1
       have HNR9 := Lib.hid hnr
       subst hrv
       clear hnr
       have HCY : Hid ((N.st ≠ 7 → N.st = 1 ∧ x.i.reset = true ∧ x.i.op = true ∧ x.i.cau = 0 ∧ m.g.v = 0) ∧ max N.g.v (-N.g.v) ≤ max (max m.g.v (-m.g.v) - m.l.d) 0 ∧ ∀ r ∈ rs, r.what = 5) := by
        obtain ⟨W', e1, e2⟩ := HE.out
        rw [e1, e2]
        exact Lib.hid (stop_cyc (atD x.i W') (HRm.out.inv0 _) (good_of HRm.out.r) x.cs HS7.out)
       have HRC : Hid (∀ q, q < nr9 → ∃ g, R9 = some ⟨g, 0, none⟩ ∧ g < wc.heap.size ∧ wc.cell? ⟨g, q * 2 + 1, none⟩ = some (.int .i64 5)) := Lib.hid (fun q hq => by
        have hx := List.getElem?_eq_getElem (l := rs) (i := q) (by rw [HNR9.out]; exact hq)
        obtain ⟨g, e1, e2, -, e3⟩ := hrc q _ hx
        refine ⟨g, e1, e2, ?_⟩
        rw [e3, HCY.out.2.2 _ (List.mem_of_getElem? hx)])
       have hv := HRm.out.inv.vel
       have hnv := HRN.out.inv.vel
       have hdd := rightB_yes HRm.out.inv.lr
       obtain ⟨⟨A9, c9, e9, -⟩, -⟩ := LineV.parts HRm.out.v.ln
       rw [((good_of HRm.out.r).fit.nil (.inr (.inr HS7.out))).1] at e9
       have HCE : Hid (∀ W', Below wc.heap.size wc W' → W'.cell? ⟨Q, 0, none⟩ = some (.int .i64 N.st) ∧ W'.cell? ⟨Q, 11, none⟩ = some (.int .i64 N.g.v) ∧ W'.cell? ⟨B, 11, none⟩ = some (.int .i64 m.g.v) ∧ W'.cell? ⟨B, 3, none⟩ = some (.int .i64 m.l.d) ∧ W'.cell? ⟨B, 14, none⟩ = some (.slice A9 0 c9)) := Lib.hid (fun W' hb => by
        have k1 := (hb.block Q hlQ).trans HNV.out.blk
        have k2 := (hb.block B hlB).trans HKc.out
        exact ⟨heap_cell 0 _ k1 (by rw [HLN.out.eq]; rfl), heap_cell 11 _ k1 (by rw [HLN.out.eq]; rfl), heap_cell 11 _ k2 (by rw [HLm.out.eq]; rfl), heap_cell 3 _ k2 (by rw [HLm.out.eq]; rfl), heap_cell 14 _ k2 (by rw [HLm.out.eq, e9]; rfl)⟩)
       have HXC : Hid (wc.cell? ⟨b, off + k * 12 + 7, none⟩ = some (.bool x.i.reset) ∧ wc.cell? ⟨b, off + k * 12 + 1, none⟩ = some (.bool x.i.op) ∧ wc.cell? ⟨b, off + k * 12 + 3, none⟩ = some (.int .i64 x.i.cau)) := by
        have h1 := HXR.out wc (HBm.out.trans (HBQ.out.mono HBw'.out))
        exact Lib.hid ⟨h1 7 _ (by rw [HIX.out.eq]; rfl), h1 1 _ (by rw [HIX.out.eq]; rfl), h1 3 _ (by rw [HIX.out.eq]; rfl)⟩
       obtain ⟨t, ht⟩ : ∃ y, N.st = y := ⟨_, rfl⟩
       obtain ⟨NV, hNV⟩ : ∃ y, N.g.v = y := ⟨_, rfl⟩
       obtain ⟨V, hV⟩ : ∃ y, m.g.v = y := ⟨_, rfl⟩
       obtain ⟨dd, hd⟩ : ∃ y, m.l.d = y := ⟨_, rfl⟩
       have HT := Lib.hid ht
       rw [ht, hNV, hV] at HCY
       rw [hd] at HCY hdd
       rw [hV] at hv
       rw [hNV] at hnv
       rw [ht, hNV, hV, hd] at HCE
       obtain ⟨-, -, -, -, hd1, hd2, -⟩ := hdd
       clear e9 hrc HSX HRG HXR HIX HXG HE ht hNV hV hd
       obtain ⟨d1, d2, d3, d4, d5⟩ := HCE.out wc (Below.refl _ _)
       by_cases ht7 : t = 7
       ·subst ht7
        have f7 : ((7 : Int) != 7) = false := rfl
        have w1 : IntKind.i64.wrap (-V) = -V := by simp only [RowKit.wrap64, IntKind.wrap_i64]; omega
        have w2 : IntKind.i64.wrap (-NV) = -NV := by simp only [RowKit.wrap64, IntKind.wrap_i64]; omega
        obtain ⟨VV, hVV⟩ : ∃ y, max V (-V) = y := ⟨_, rfl⟩
        obtain ⟨NN, hNN⟩ : ∃ y, max NV (-NV) = y := ⟨_, rfl⟩
        have w3 : IntKind.i64.wrap (VV - dd) = VV - dd := by simp only [RowKit.wrap64, IntKind.wrap_i64]; omega
        have w4 : ¬ max (VV - dd) 0 < NN := by have := HCY.out.2.1; omega
        go_upto_region 16 with (fail)
        clear d1 d2 d3 d4 d5
        go_cut [13, 14] from 132 to 147 (fun r13 r14 wx => r13 = .int .i64 VV ∧ r14 = .int .i64 NN ∧ Hid (Below wc.heap.size wc wx))
        case first =>
         refine wp_region_held_drew (S := fun w' => Below wc.heap.size wc w') (by kernel_rfl) ?_ (fun hHeld => ?_)
         ·exact (Below.refl _ _).drew
         (refine takeT (i := 0) (v := ?_) rfl ?_ ?_; rotate_left; (focus (intro w' hSw; (try dsimp only at hSw); go_simp; try (with_reducible rfl))))
         (refine takeT (i := 1) (v := ?_) rfl ?_ ?_; rotate_left; (focus (intro w' hSw; (try dsimp only at hSw); go_simp; try (with_reducible rfl))))
         (refine takeT (i := 2) (v := ?_) rfl ?_ ?_; rotate_left; (focus (intro w' hSw; (try dsimp only at hSw); have g := (HCE.out _ hSw).2.2.1; go_simp; try (with_reducible rfl))); (try simp only [Act.put, List.setIfInBounds_toArray, List.set_cons_zero, List.set_cons_succ]))
         (refine takeT (i := 3) (v := ?_) rfl ?_ ?_; rotate_left; (focus (intro w' hSw; (try dsimp only at hSw); go_simp; try (with_reducible rfl))))
         (refine takeT (i := 4) (v := ?_) rfl ?_ ?_; rotate_left; (focus (intro w' hSw; (try dsimp only at hSw); go_simp; try (with_reducible rfl))))
         (refine takeT (i := 5) (v := ?_) rfl ?_ ?_; rotate_left; (focus (intro w' hSw; (try dsimp only at hSw); have g := (HCE.out _ hSw).2.2.1; go_simp; try (with_reducible rfl))); (try simp only [Act.put, List.setIfInBounds_toArray, List.set_cons_zero, List.set_cons_succ]))
         (refine takeT (i := 6) (v := ?_) rfl ?_ ?_; rotate_left; (focus (intro w' hSw; (try dsimp only at hSw); go_simp; try (with_reducible rfl))))
         (refine takeT (i := 7) (v := ?_) rfl ?_ ?_; rotate_left; (focus (intro w' hSw; (try dsimp only at hSw); go_simp; try (with_reducible rfl))))
         (refine takeT (i := 8) (v := ?_) rfl ?_ ?_; rotate_left; (focus (intro w' hSw; (try dsimp only at hSw); go_simp; try (with_reducible rfl))); (try simp only [Act.put, List.setIfInBounds_toArray, List.set_cons_zero, List.set_cons_succ]))
         (refine takeT (i := 9) (v := ?_) rfl ?_ ?_; rotate_left; (focus (intro w' hSw; (try dsimp only at hSw); go_simp; try (with_reducible rfl))))
         (refine takeT (i := 10) (v := ?_) rfl ?_ ?_; rotate_left; (focus (intro w' hSw; (try dsimp only at hSw); have g := (HCE.out _ hSw).2.1; go_simp; try (with_reducible rfl))))
         (refine takeT (i := 11) (v := ?_) rfl ?_ ?_; rotate_left; (focus (intro w' hSw; (try dsimp only at hSw); go_simp; try (with_reducible rfl))); (try simp only [Act.put, List.setIfInBounds_toArray, List.set_cons_zero, List.set_cons_succ]))
         (refine takeT (i := 12) (v := ?_) rfl ?_ ?_; rotate_left; (focus (intro w' hSw; (try dsimp only at hSw); go_simp; try (with_reducible rfl))))
         (refine takeT (i := 13) (v := ?_) rfl ?_ ?_; rotate_left; (focus (intro w' hSw; (try dsimp only at hSw); have g := (HCE.out _ hSw).2.1; go_simp; try (with_reducible rfl))))
         (refine takeT (i := 14) (v := ?_) rfl ?_ ?_; rotate_left; (focus (intro w' hSw; (try dsimp only at hSw); go_simp; try (with_reducible rfl))); (try simp only [Act.put, List.setIfInBounds_toArray, List.set_cons_zero, List.set_cons_succ]))
         (refine takeT (i := 15) (v := ?_) rfl ?_ ?_; rotate_left; (focus (intro w' hSw; (try dsimp only at hSw); go_simp; try (with_reducible rfl))))
         (refine takeT (i := 16) (v := ?_) rfl ?_ ?_; rotate_left; (focus (intro w' hSw; (try dsimp only at hSw); go_simp; try (with_reducible rfl))))
         (refine takeT (i := 17) (v := ?_) rfl ?_ ?_; rotate_left; (focus (intro w' hSw; (try dsimp only at hSw); go_simp; try (with_reducible rfl))); (try simp only [Act.put, List.setIfInBounds_toArray, List.set_cons_zero, List.set_cons_succ]))
         refine wpAnyH_done (by kernel_rfl) ?_ _
         (try simp only [Act.put, List.setIfInBounds_toArray, List.set_cons_zero, List.set_cons_succ])
         have HH := Lib.hid hHeld
         clear hHeld
         go_wp2
         go_meet
         case rel => exact ⟨rfl, rfl, HH⟩
        case rest =>
         obtain ⟨rfl, rfl, HH⟩ := hcut
         have HNV := Lib.hid (HNV.out.below HH.out)
         have HKc := Lib.hid ((HH.out.block B hlB).trans HKc.out)
         have HRC : Hid (∀ q, q < nr9 → ∃ g, R9 = some ⟨g, 0, none⟩ ∧ g < wc.heap.size ∧ wc.cell? ⟨g, q * 2 + 1, none⟩ = some (.int .i64 5)) := Lib.hid (fun q hq => by
          obtain ⟨g, e1, e2, e3⟩ := HRC.out q hq
          exact ⟨g, e1, Nat.lt_of_lt_of_le e2 HH.out.size, (HH.out.cell (p := ⟨g, q * 2 + 1, none⟩) e2).trans e3⟩)
         obtain ⟨d1, d2, d3, d4, d5⟩ := HCE.out _ HH.out
         have HBQ := Lib.hid (HBQ.out.trans (HH.out.mono HBQ.out.size))
         clear HCE HH
         go_wp2_with fail
         clear d1 d2 d3 d4
         go_loopw [15] (fun u wx => ∃ q : Nat, q ≤ nr9 ∧ u = .int .i64 q ∧ wx = wc) (fun u _ => nr9 - (intOf u).toNat)
         case atStart => exact ⟨0, by omega, rfl, rfl⟩
         case round =>
          obtain ⟨q, hq, rfl, rfl⟩ := hrel
          by_cases hq2 : q < nr9
          ·obtain ⟨g, rfl, e2, e3⟩ := HRC.out q hq2
           have hq0 : (0 : Int) ≤ (q : Int) := by omega
           have hqn : (q : Int) < (nr9 : Int) := by omega
           have f5 : ((5 : Int) != 5) = false := rfl
           go_wp2
           go_roundw
           case rel => exact ⟨q + 1, by omega, by go_num, trivial⟩
           case measure => simp [intOf]; omega
          ·obtain rfl : nr9 = q := by omega
           clear d5 HRC
           obtain ⟨r1, sv1, nv1, wv1, r2, r3⟩ := HNV.out.move (P := B) hBr HKc.out
           have HR1 := Lib.hid r1
           have HR2 := Lib.hid r2
           have HR3 := Lib.hid r3
           have HO := Lib.hid (AxR.one r2.v r3)
           have HZ : Hid (Lm.toArray.size = L'.toArray.size) := Lib.hid (by rw [r3.eq, HLm.out.eq]; rfl)
           have HBB := Lib.hid (below_setRow (HBm.out.trans (HBQ.out.mono HBw'.out)) (show w.heap.size ≤ B by have := HBw.out; omega) L'.toArray)
           have HBK := Lib.hid HNV.out.blk
           clear r1 r2 r3
           go_wp2_with (first
            | refine wpList_load_row rfl 35 _ rfl Q rfl 35 L'.toArray (0, 0) _ HBK.out Tryz.underlying35 rfl HR3.out.size ?_
            | refine wpList_store_row rfl 35 _ _ rfl B L'.toArray rfl rfl 35 _ HKc.out (by rw [List.size_toArray]; exact HR3.out.size) HZ.out HO.out ?_)
           go_roundw
           case rel => exact ⟨k + 1, N, sv1, nv1, wv1, L', by omega, by go_num, HR2, HR3, HR1, HBB, HT⟩
           case measure => simp [intOf]; omega
       ·obtain ⟨g1, g2, g3, g4, g5⟩ := HCY.out.1 ht7
        obtain ⟨x7, x1, x3⟩ := HXC.out
        rw [g2] at x7
        rw [g3] at x1
        rw [g4] at x3
        subst g1 g5
        have HEND := Lib.hid (HBm.out.trans (HBQ.out.mono HBw'.out))
        have f7 : ((1 : Int) != 7) = true := rfl
        clear g2 g3 g4 ht7 HCY HXC
        go_wp2
        go_ret
        exact ⟨rfl, HEND.out⟩
     ·obtain rfl : n = k := by omega
      go_wp2
      go_ret
      exact ⟨rfl, HBm.out⟩

end Go.Proofs.YtogbhnmkinjpeaaGreat
