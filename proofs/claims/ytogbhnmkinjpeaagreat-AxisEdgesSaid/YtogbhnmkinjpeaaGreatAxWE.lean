/- Layer 15: AxisEdges, by the walk. -/
import Derived.Test.YtogbhnmkinjpeaaGreatM43
namespace Go.Proofs.YtogbhnmkinjpeaaGreat
open Go.RowKit
set_option linter.unusedVariables false
set_option linter.unusedSimpArgs false
attribute [local go_sem] ite_max ite_min vite_max vite_min ext_cell ext_frozen

set_option maxRecDepth 100000 in
set_option maxHeartbeats 8000000 in
theorem edges_main (a : AX) (sv nv wv : Value) (L : List Value) (hL : AxL a sv nv wv L) (A : Option Addr) (n cap : Nat) (ins : List InX) (hn : ins.length = n) (w : World) (h : AxV w a sv nv wv) (hl : SliceAt 12 InX.cells (InG w) w (.slice A n cap) ins) :
  Calls Tryz.prog 3 #[.agg L.toArray, .slice A n cap] w fun e w' => e = .returned (.bool true) ∧ Below w.heap.size w w' := by
 have h1 : n ≤ cap := by
  obtain ⟨A', c', e, h1, -⟩ := hl
  injection e with e1 e2 e3
  omega
 have h2 : cap ≤ 9223372036854775807 := by
  obtain ⟨A', c', e, h1, h2, -⟩ := hl
  injection e with e1 e2 e3
  omega
 have HA := Lib.hid h
 have HL := Lib.hid hL
 have HI := Lib.hid hl
 have HN := Lib.hid hn
 have HX : Hid (∀ k, k < n → ∃ b off x, A = some ⟨b, off, none⟩ ∧ b < w.heap.size ∧ ins[k]? = some x ∧ InG w x ∧ ∀ W, Below w.heap.size w W → W.rangeAt b (off + k * 12) x.cells) := Lib.hid (fun k hk => ins_at hl k (by omega))
 obtain ⟨r1, hr1⟩ : ∃ r, shortL a ins = r := ⟨_, rfl⟩
 have HSH : Hid (∀ W, Below w.heap.size w W → SliceAt 12 InX.cells (InG W) W (.slice A n cap) ins → Calls Tryz.prog 9 #[.agg L.toArray, .slice A n cap] W fun e w' => e = .returned (.bool r1) ∧ Below W.heap.size W w') := Lib.hid (fun W hb hl' => shorts_at a sv nv wv W (h.below hb) L hL ins _ hl' r1 hr1)
 obtain ⟨r2, hr2⟩ : ∃ r, rightX a = r := ⟨_, rfl⟩
 have HRI : Hid (∀ W, Below w.heap.size w W → Calls Tryz.prog 10 #[.agg L.toArray] W fun e w' => e = .returned (.bool r2) ∧ Below W.heap.size W w') := Lib.hid (fun W hb => aright_L a sv nv wv L r2 W (h.below hb) hL hr2)
 have HR1 := Lib.hid hr1
 have HR2 := Lib.hid hr2
 have HIB : Hid (∀ W, Below w.heap.size w W → SliceAt 12 InX.cells (InG W) W (.slice A n cap) ins) := Lib.hid (fun W hb => ins_below hl hb)
 clear h hL hl hn hr1 hr2
 go_enter Tryz.func3, Tryz.ntmps3
 go_upto_region 1 with (fail)
 refine wp_name fun W hW => ?_
 obtain ⟨B, hB⟩ : ∃ B, B = w.heap.size := ⟨_, rfl⟩
 have HB : Hid (Below w.heap.size w W) := by rw [hW.out]; exact Lib.hid (by exact belowBy)
 have HK : Hid (W.heap[B]? = some (.cells L.toArray 35)) := by
  rw [hW.out, hB]
  exact Lib.hid (heap_alloc_new _ _)
 have HBw := Lib.hid hB
 (try rw [← hB])
 clear hW hB
 go_wp2_with fail
 refine (awake15 _).mono ?_
 rintro e w1 ⟨rfl, hb1⟩
 have hlt : B < W.heap.size := (Array.getElem?_eq_some_iff.1 HK.out).1
 have HB1 := Lib.hid (HB.out.trans (hb1.mono HB.out.size))
 have HK1 := Lib.hid ((hb1.block B hlt).trans HK.out)
 clear hb1 HK HB hlt
 go_upto_region 3 with (fail)
 go_cut [34] from 14 to 34 (fun r wx => ∃ v : Bool, r = .bool v ∧ Hid (Below w.heap.size w wx) ∧ Hid (wx.heap[B]? = some (.cells L.toArray 35)) ∧ Hid (v = false → r1 = true ∧ r2 = true))
 case first =>
  go_wp2_with (refine wpList_load_row rfl 35 _ rfl B rfl 35 L.toArray (0, 0) _ HK1.out Tryz.underlying35 rfl HL.out.size ?_)
  refine (HSH.out _ HB1.out (HIB.out _ HB1.out)).mono ?_
  rintro e w2 ⟨rfl, hb2⟩
  have hlt : B < w1.heap.size := (Array.getElem?_eq_some_iff.1 HK1.out).1
  have HB2 := Lib.hid (HB1.out.trans (hb2.mono HB1.out.size))
  have HK2 := Lib.hid ((hb2.block B hlt).trans HK1.out)
  clear hb2 HK1 HB1 hlt
  cases r1
  ·go_wp2
   go_meet
   case rel => exact ⟨true, rfl, HB2, HK2, Lib.hid (fun h => by cases h)⟩
  have hrg := range_of HK2.out
  go_wp2_with (refine wpList_load_midG 35 _ rfl B 0 rfl L _ hrg Tryz.underlying35 rfl HL.out.size (by first | rfl | kernel_rfl) ?_)
  clear hrg
  refine (HRI.out _ HB2.out).mono ?_
  rintro e w3 ⟨rfl, hb3⟩
  have hlt : B < w2.heap.size := (Array.getElem?_eq_some_iff.1 HK2.out).1
  have HB3 := Lib.hid (HB2.out.trans (hb3.mono HB2.out.size))
  have HK3 := Lib.hid ((hb3.block B hlt).trans HK2.out)
  clear hb3 HK2 HB2 hlt
  cases r2
  ·go_wp2
   go_meet
   case rel => exact ⟨true, rfl, HB3, HK3, Lib.hid (fun h => by cases h)⟩
  have HR : Hid (AxR w3 a sv nv wv) := Lib.hid ⟨HA.out.below HB3.out, HR2.out⟩
  have hlB : B < w3.heap.size := (Array.getElem?_eq_some_iff.1 HK3.out).1
  have c0 : w3.cell? ⟨B, 0, none⟩ = some (.int .i64 a.st) := heap_cell 0 _ HK3.out (by rw [HL.out.eq]; rfl)
  have hdone : ∃ p A1 c1, w3.cell? ⟨B, 14, none⟩ = some (.slice A1 p c1) ∧ (a.st = 2 → p = 1) := by
   obtain ⟨⟨A1, c1, e1, -⟩, -⟩ := LineV.parts HR.out.v.ln
   refine ⟨a.ns.length, A1, c1, ?_, fun h2 => ?_⟩
   ·rw [← e1]
    exact heap_cell 14 _ HK3.out (by rw [HL.out.eq]; rfl)
   ·rcases (good_of HR.out.r).fit with ⟨h, hw, hs⟩ | ⟨c, h, hw, hs', hc⟩ | ⟨c, h, hw, hs', hc⟩ | ⟨c, h, hw, hs', hc, h0, h1, h2⟩ | ⟨c, h, hw, hs', hc, hd⟩ | ⟨c, h, hw, hs', hc⟩ | ⟨c, h, hs', hm⟩
    ·omega
    all_goals rw [h]; rfl
  obtain ⟨p, A1, c1, c14, hp1⟩ := hdone
  have hs2 : (a.st == 2) = false ∨ ((a.st == 2) = true ∧ p = 1) := by
   by_cases h2 : a.st = 2
   ·exact .inr ⟨by simp [h2], hp1 h2⟩
   ·exact .inl (by simp [h2])
  clear hp1
  rcases hs2 with h2 | ⟨h2, rfl⟩
  ·go_wp2
   go_meet
   case rel => exact ⟨false, rfl, HB3, HK3, Lib.hid (by simp)⟩
  ·go_wp2
   go_meet
   case rel => exact ⟨false, rfl, HB3, HK3, Lib.hid (by simp)⟩
 case rest =>
  obtain ⟨v, rfl, HB3, HK3, HV⟩ := hcut
  cases v
  case true =>
   go_wp2
   go_ret
   exact ⟨rfl, HB3.out⟩
  case false =>
   obtain ⟨g1, g2⟩ := HV.out rfl
   have HR : Hid (AxR wc a sv nv wv) := Lib.hid ⟨HA.out.below HB3.out, HR2.out.trans g2⟩
   have HLIM : Hid (∀ (k : Nat) (x : InX), ins[k]? = some x → x.cs.length ≤ 20) := Lib.hid (fun k x hx => by
    have h1 := HR1.out.trans g1
    unfold shortL at h1
    simp only [Bool.and_eq_true, List.all_eq_true] at h1
    have h2 := of_decide_eq_true (h1.2 x (List.mem_of_getElem? hx))
    exact h2.2.2.2)
   have HSTEP : Hid (∀ (x : InX) (W : World) (n : AX) (sv nv wv : Value) (L : List Value), AxR W n sv nv wv → AxL n sv nv wv L → InG W x → x.cs.length ≤ 20 → Calls Tryz.prog 11 #[.agg L.toArray, .agg x.cells.toArray] W fun e w' => ∃ L' rv', e = .returned (.tuple #[.agg L'.toArray, rv']) ∧ StepV W (cycX n (atD x.i W) x.cs).a (cycX n (atD x.i W) x.cs).rs L' rv' w') := Lib.hid (fun x W n sv nv wv L hr hL hg hx => astep_right hr hL hg hx (inL_of x))
   clear HSH HRI HR1 HR2 HA HV g1 g2 HK1 HB1
   go_wp2_with fail
   go_loopw [5] (fun u wr => ∃ (k : Nat) (m : AX) (sv nv wv : Value) (Lm : List Value), k ≤ n ∧ u = .int .i64 k ∧ Hid (AxR wr m sv nv wv) ∧ Hid (AxL m sv nv wv Lm) ∧ Hid (wr.heap[B]? = some (.cells Lm.toArray 35)) ∧ Hid (Below w.heap.size w wr)) (fun u _ => n - (intOf u).toNat)
   case atStart => exact ⟨0, a, sv, nv, wv, L, by omega, rfl, HR, HL, HK3, HB3⟩
   case round =>
    obtain ⟨k, m, sv, nv, wv, Lm, hk, rfl, HRm, HLm, HKm, HBm⟩ := hrel
    by_cases hlk : k < n
    ·obtain ⟨b, off, x, rfl, hb, hxk, hg, hrg⟩ := HX.out k hlk
     have hk0 : (0 : Int) ≤ (k : Int) := by omega
     have hkn : (k : Int) < (n : Int) := by omega
     have hBr : B < wr.heap.size := (Array.getElem?_eq_some_iff.1 HKm.out).1
     have HRG : Hid (∀ W', Below wr.heap.size wr W' → W'.rangeAt b (off + k * 12) x.cells ∧ W'.rangeAt B 0 Lm) := Lib.hid (fun W' hb' =>
      ⟨hrg W' (HBm.out.trans (hb'.mono HBm.out.size)), range_of ((hb'.block B hBr).trans HKm.out)⟩)
     have HSX : Hid (∀ W', Below wr.heap.size wr W' → Calls Tryz.prog 11 #[.agg Lm.toArray, .agg x.cells.toArray] W' fun e w' => ∃ L' rv', e = .returned (.tuple #[.agg L'.toArray, rv']) ∧ StepV W' (cycX m (atD x.i W') x.cs).a (cycX m (atD x.i W') x.cs).rs L' rv' w') := Lib.hid (fun W' hb' =>
      HSTEP.out x W' m sv nv wv Lm (HRm.out.below hb') HLm.out (hg.below (HBm.out.trans (hb'.mono HBm.out.size))) (HLIM.out k x hxk))
     have HIX := Lib.hid (inL_of x)
     have HXG := Lib.hid hg
     clear hb hxk hg hrg
     obtain ⟨M, hM⟩ : ∃ M, x.cells = M := ⟨_, rfl⟩
     rw [hM] at HRG HSX HIX
     clear hM
     go_upto_region 8 with (fail)
     go_cut [6, 7] from 41 to 49 (fun r6 r7 wx => ∃ (Q : Nat) (N : AX) (rs : List RepS) (L' : List Value) (rv' : Value), r6 = .pointer (some ⟨Q, 0, none⟩) ∧ r7 = rv' ∧ Hid (NVar wr.heap.size N rs L' rv' Q wx) ∧ Hid (Below wr.heap.size wr wx) ∧ Hid (∃ W' : World, N = (cycX m (atD x.i W') x.cs).a ∧ rs = (cycX m (atD x.i W') x.cs).rs))
     case first =>
      refine wp_region_held_drew (S := fun w' => Below wr.heap.size wr w') (by kernel_rfl) ?_ (fun hHeld => ?_)
      ·exact (Below.refl _ _).drew
      (refine takeH (i := 0) (v := .agg Lm.toArray) rfl (by kernel_rfl) (by kernel_rfl) (by kernel_rfl) (fun _ _ _ h => h) (yieldsIf_load_mid (by kernel_rfl) 35 _ rfl B 0 rfl Lm _ (fun _ hb => (HRG.out _ hb).2) Tryz.underlying35 rfl HLm.out.size) (by assumption) ?_)
      (refine takeT (i := 1) (v := ?_) rfl ?_ ?_; rotate_left; (focus (intro w' hSw; (try dsimp only at hSw); go_simp; try (with_reducible rfl))))
      (refine takeT (i := 2) (v := ?_) rfl ?_ ?_; rotate_left; (focus (intro w' hSw; (try dsimp only at hSw); go_simp; try (with_reducible rfl))); (try simp only [Act.put, List.setIfInBounds_toArray, List.set_cons_zero, List.set_cons_succ]))
      (refine takeT (i := 3) (v := ?_) rfl ?_ ?_; rotate_left; (focus (intro w' hSw; (try dsimp only at hSw); go_simp; try (with_reducible rfl))))
      (refine takeH (i := 4) (v := .agg M.toArray) rfl (by kernel_rfl) (by kernel_rfl) (by kernel_rfl) (fun _ _ _ h => h) (yieldsIf_load_mid (by kernel_rfl) 44 _ rfl b (off + k * 12) rfl M _ (fun _ hb => (HRG.out _ hb).1) Tryz.underlying44 rfl HIX.out.size) (by assumption) ?_; (try simp only [Act.put, List.setIfInBounds_toArray, List.set_cons_zero, List.set_cons_succ]))
      refine twoX (i := 5) (j := 9) (by kernel_rfl) rfl rfl (fun Kc hK => ?_) (fun Kc hK => ?_)
      ·go_simp
       go_at_call 11
       refine (HSX.out _ hHeld).mono ?_
       rintro e w7 ⟨L', rv', rfl, hst⟩
       have HST := Lib.hid hst
       have hb7 : Below wr.heap.size wr w7 := hHeld.trans (hst.below.mono hHeld.size)
       have hsz : wr.heap.size ≤ wr.drew.heap.size := hHeld.size
       have HN' : Hid (L'.toArray.all (·.oneCell') = true ∧ (Tryz.prog.info? 35).map (·.size) = some L'.length ∧ L'.toArray.size = 26) := by
        obtain ⟨⟨sv1, nv1, wv1, q1, q2, -⟩, -, -⟩ := hst
        exact Lib.hid ⟨AxR.one q1.v q2, q2.size, by rw [q2.eq]; rfl⟩
       clear hst hHeld
       go_wp2_with fail
       refine hK.out _ _ hb7 (fun hHeld => ?_)
       clear hK Kc
       (try simp only [Act.put, List.setIfInBounds_toArray, List.set_cons_zero, List.set_cons_succ])
       (refine takeT (i := 6) (v := ?_) rfl ?_ ?_; rotate_left; (focus (intro w' hSw; (try dsimp only at hSw); go_simp; try (with_reducible rfl))))
       (refine takeT (i := 7) (v := ?_) rfl ?_ ?_; rotate_left; (focus (intro w' hSw; (try dsimp only at hSw); go_simp; try (with_reducible rfl))))
       (refine takeT (i := 8) (v := ?_) rfl ?_ ?_; rotate_left; (focus (intro w' hSw; (try dsimp only at hSw); go_simp; try (with_reducible rfl))); (try simp only [Act.put, List.setIfInBounds_toArray, List.set_cons_zero, List.set_cons_succ]))
       refine oneH (i := 9) (by kernel_rfl) rfl (fun Kc hK => ?_)
       go_simp
       refine hK.out _ _ (below_new hHeld (Nat.le_refl _) _) (fun hHeld => ?_)
       clear hK Kc
       (try simp only [Act.put, List.setIfInBounds_toArray, List.set_cons_zero, List.set_cons_succ])
       refine oneRow (i := 10) (by kernel_rfl) rfl (by kernel_rfl) 35 _ _ rfl w7.heap.size L'.toArray rfl rfl _ _ (heap_alloc_new _ _) (by rw [List.size_toArray]; exact HN'.out.2.1) (by rw [HN'.out.2.2]; rfl) HN'.out.1 (below_setRow hHeld hb7.size _) ?_
       (try simp only [Act.put, List.setIfInBounds_toArray, List.set_cons_zero, List.set_cons_succ])
       have HF := Lib.hid (below_setRow hHeld hb7.size L'.toArray)
       replace hHeld := HF.out
       (refine takeT (i := 11) (v := ?_) rfl ?_ ?_; rotate_left; (focus (intro w' hSw; (try dsimp only at hSw); go_simp; try (with_reducible rfl))); (try simp only [Act.put, List.setIfInBounds_toArray, List.set_cons_zero, List.set_cons_succ]))
       refine wpAnyH_done (by kernel_rfl) ?_ _
       (try simp only [Act.put, List.setIfInBounds_toArray, List.set_cons_zero, List.set_cons_succ])
       clear hHeld hb7 HN'
       go_wp2
       go_meet
       case rel => exact ⟨w7.heap.size, _, _, L', rv', rfl, rfl, Lib.hid (nvar_pa HST.out hsz), HF, Lib.hid ⟨_, rfl, rfl⟩⟩
      ·go_simp
       refine hK.out _ _ (below_new hHeld (Nat.le_refl _) _) (fun hHeld => ?_)
       clear hK Kc
       (try simp only [Act.put, List.setIfInBounds_toArray, List.set_cons_zero, List.set_cons_succ])
       refine oneH (i := 5) (by kernel_rfl) rfl (fun Kc hK => ?_)
       go_simp
       go_at_call 11
       refine (HSX.out _ hHeld).mono ?_
       rintro e w7 ⟨L', rv', rfl, hst⟩
       have HST := Lib.hid hst
       have HQ7 := Lib.hid (hst.below.block wr.heap.size (by simp))
       have hb7 : Below wr.heap.size wr w7 := hHeld.trans (hst.below.mono hHeld.size)
       have HN' : Hid (L'.toArray.all (·.oneCell') = true ∧ (Tryz.prog.info? 35).map (·.size) = some L'.length ∧ L'.toArray.size = 26) := by
        obtain ⟨⟨sv1, nv1, wv1, q1, q2, -⟩, -, -⟩ := hst
        exact Lib.hid ⟨AxR.one q1.v q2, q2.size, by rw [q2.eq]; rfl⟩
       clear hst hHeld
       go_wp2_with fail
       refine hK.out _ _ hb7 (fun hHeld => ?_)
       clear hK Kc
       (try simp only [Act.put, List.setIfInBounds_toArray, List.set_cons_zero, List.set_cons_succ])
       (refine takeT (i := 6) (v := ?_) rfl ?_ ?_; rotate_left; (focus (intro w' hSw; (try dsimp only at hSw); go_simp; try (with_reducible rfl))))
       (refine takeT (i := 7) (v := ?_) rfl ?_ ?_; rotate_left; (focus (intro w' hSw; (try dsimp only at hSw); go_simp; try (with_reducible rfl))))
       (refine takeT (i := 8) (v := ?_) rfl ?_ ?_; rotate_left; (focus (intro w' hSw; (try dsimp only at hSw); go_simp; try (with_reducible rfl))); (try simp only [Act.put, List.setIfInBounds_toArray, List.set_cons_zero, List.set_cons_succ]))
       refine oneRow (i := 10) (by kernel_rfl) rfl (by kernel_rfl) 35 _ _ rfl wr.heap.size L'.toArray rfl rfl _ _ (HQ7.out.trans (heap_alloc_new _ _)) (by rw [List.size_toArray]; exact HN'.out.2.1) (by rw [HN'.out.2.2]; rfl) HN'.out.1 (below_setRow hHeld (Nat.le_refl _) _) ?_
       (try simp only [Act.put, List.setIfInBounds_toArray, List.set_cons_zero, List.set_cons_succ])
       have HF := Lib.hid (below_setRow hHeld (Nat.le_refl _) L'.toArray)
       replace hHeld := HF.out
       (refine takeT (i := 11) (v := ?_) rfl ?_ ?_; rotate_left; (focus (intro w' hSw; (try dsimp only at hSw); go_simp; try (with_reducible rfl))); (try simp only [Act.put, List.setIfInBounds_toArray, List.set_cons_zero, List.set_cons_succ]))
       refine wpAnyH_done (by kernel_rfl) ?_ _
       (try simp only [Act.put, List.setIfInBounds_toArray, List.set_cons_zero, List.set_cons_succ])
       clear hHeld hb7 HN'
       go_wp2
       go_meet
       case rel => exact ⟨wr.heap.size, _, _, L', rv', rfl, rfl, Lib.hid (nvar_pb HST.out (Nat.le_refl _) (heap_alloc_new _ _)), HF, Lib.hid ⟨_, rfl, rfl⟩⟩
     case rest =>
      obtain ⟨Q, N, rs, L', rv', rfl, rfl, HNV, HBQ, HE⟩ := hcut
      have HKc := Lib.hid ((HBQ.out.block B hBr).trans HKm.out)
      have HED : Hid (edgeK m.st N.st 12 = true) := by
       obtain ⟨W', e1, -⟩ := HE.out
       rw [e1]
       exact Lib.hid (cyc_good (atD x.i W') x.cs (HRm.out.inv0 _) (good_of HRm.out.r) ⟨HXG.out.iw.act, HXG.out.iw.mas⟩ HXG.out.cw).2.2
      have q0 : wc.cell? ⟨Q, 0, none⟩ = some (.int .i64 N.st) := by
       obtain ⟨sv1, nv1, wv1, -, q2, -⟩ := HNV.out.ax
       exact heap_cell 0 _ HNV.out.blk (by rw [q2.eq]; rfl)
      have b0 : wc.cell? ⟨B, 0, none⟩ = some (.int .i64 m.st) := heap_cell 0 _ HKc.out (by rw [HLm.out.eq]; rfl)
      have HBw' : Hid (w.heap.size ≤ wr.heap.size) := Lib.hid HBm.out.size
      have hlQ := HNV.out.lt
      have hlB : B < wc.heap.size := (Array.getElem?_eq_some_iff.1 HKc.out).1
      obtain ⟨s, hs⟩ : ∃ s, m.st = s := ⟨_, rfl⟩
      obtain ⟨t, ht⟩ : ∃ t, N.st = t := ⟨_, rfl⟩
      rw [hs] at HED b0
      rw [ht] at HED q0
      clear hs ht HSX HRG HIX HXG HE HKm HRm
      go_wp2_with fail
      go_loopw [8, 9, 10, 11] (fun r8 r9 r10 r11 wx => ∃ q : Nat, q ≤ 12 ∧ r8 = .bool (edgeK s t q) ∧ r9 = .int .i64 ((q : Int) + 1) ∧ wx = wc) (fun _ r9 _ _ _ => 13 - (intOf r9).toNat)
      case atStart => exact ⟨0, by omega, rfl, rfl, rfl⟩
      case round =>
       obtain ⟨q, hq, rfl, rfl, rfl⟩ := hrel
       by_cases hq2 : q < 12
       ·have hq3 : (q : Int) + 1 ≤ 12 := by omega
        have hsucc : edgeK s t (q + 1) = (edgeK s t q || (stB s ((q : Int) + 1) && decide (stV s ((q : Int) + 1) = t))) := rfl
        have HS := Lib.hid hsucc
        clear hsucc
        obtain ⟨E, hE⟩ : ∃ E, edgeK s t q = E := ⟨_, rfl⟩
        obtain ⟨F, hF⟩ : ∃ F, stB s ((q : Int) + 1) = F := ⟨_, rfl⟩
        obtain ⟨V, hV⟩ : ∃ V, stV s ((q : Int) + 1) = V := ⟨_, rfl⟩
        rw [hE, hF, hV] at HS
        rw [hE]
        have HNX : Hid (∀ w, Calls Tryz.prog 12 #[.int .i64 s, .int .i64 ((q : Int) + 1)] w fun e' w' => e' = .returned (.tuple #[.int .i64 V, .bool F]) ∧ w = w') := Lib.hid (fun w => by rw [← hF, ← hV]; exact next_any s _ w)
        clear hE hF hV
        cases E
        ·cases F
         ·go_wp2_with (first | (go_at_call 12; refine (HNX.out _).mono ?_; rintro e w' ⟨rfl, rfl⟩))
          go_roundw
          case rel => exact ⟨q + 1, by omega, by rw [HS.out]; rfl, by go_num, trivial⟩
          case measure => simp [intOf]; omega
         ·by_cases hVt : V = t
          ·have e1 : (V == t) = true := by simp [hVt]
           have HVt := Lib.hid hVt
           clear hVt
           go_wp2_with (first | (go_at_call 12; refine (HNX.out _).mono ?_; rintro e w' ⟨rfl, rfl⟩))
           go_roundw
           case rel => exact ⟨q + 1, by omega, by rw [HS.out, decide_eq_true HVt.out]; rfl, by go_num, trivial⟩
           case measure => simp [intOf]; omega
          ·have e1 : (V == t) = false := by simp [hVt]
           have HVt := Lib.hid hVt
           clear hVt
           go_wp2_with (first | (go_at_call 12; refine (HNX.out _).mono ?_; rintro e w' ⟨rfl, rfl⟩))
           go_roundw
           case rel => exact ⟨q + 1, by omega, by rw [HS.out, decide_eq_false HVt.out]; rfl, by go_num, trivial⟩
           case measure => simp [intOf]; omega
        ·go_wp2_with (first | (go_at_call 12; refine (HNX.out _).mono ?_; rintro e w' ⟨rfl, rfl⟩))
         go_roundw
         case rel => exact ⟨q + 1, by omega, by rw [HS.out]; rfl, by go_num, trivial⟩
         case measure => simp [intOf]; omega
       ·obtain rfl : q = 12 := by omega
        rw [HED.out]
        obtain ⟨r1, sv1, nv1, wv1, r2, r3⟩ := HNV.out.move (P := B) hBr HKc.out
        have HR1 := Lib.hid r1
        have HR2 := Lib.hid r2
        have HR3 := Lib.hid r3
        have HO := Lib.hid (AxR.one r2.v r3)
        have HZ : Hid (Lm.toArray.size = L'.toArray.size) := Lib.hid (by rw [r3.eq, HLm.out.eq]; rfl)
        have HBB := Lib.hid (below_setRow (HBm.out.trans (HBQ.out.mono HBw'.out)) (show w.heap.size ≤ B by have := HBw.out; omega) L'.toArray)
        have HBK := Lib.hid HNV.out.blk
        clear r1 r2 r3 HNV HBQ HBm hlQ hlB q0 b0
        go_wp2_with (first
         | refine wpList_load_row rfl 35 _ rfl Q rfl 35 L'.toArray (0, 0) _ HBK.out Tryz.underlying35 rfl HR3.out.size ?_
         | refine wpList_store_row rfl 35 _ _ rfl B L'.toArray rfl rfl 35 _ HKc.out (by rw [List.size_toArray]; exact HR3.out.size) HZ.out HO.out ?_)
        go_roundw
        case rel => exact ⟨k + 1, N, sv1, nv1, wv1, L', by omega, by go_num, HR2, HR3, HR1, HBB⟩
        case measure => simp [intOf]; omega
    ·obtain rfl : n = k := by omega
     go_wp2
     go_ret
     exact ⟨rfl, HBm.out⟩

end Go.Proofs.YtogbhnmkinjpeaaGreat
