/- Layer 27, the reference: a program's blocks are told: the walk. PRINTED by wip/tool/mkrtell.py -/
import Derived.Test.YtpgkebfdfhdliaaDoorM34
namespace Go.Proofs.YtpgkebfdfhdliaaDoor
open Go.RowKit
set_option linter.unusedVariables false
set_option linter.unusedSimpArgs false
attribute [local go_sem] ite_max ite_min vite_max vite_min ext_cell ext_frozen

theorem told_1 (k : Int) (off : Nat) (zs : List Int) : toldP k off 1 zs = zs.set (off + (outsN k + 2)) 1 := if_pos rfl
theorem told_2a {k : Int} (off : Nat) (zs : List Int) (h : k < 27) : toldP k off 2 zs = (((zs.set (off + (outsN k + 1)) 0).set (off + (outsN k + 2)) 0).set (off + (outsN k + 5 + 1)) 0).set (off + outsN k) 1 := by
 unfold toldP
 rw [if_neg (by decide), if_pos (by decide), if_pos rfl, if_pos h]
theorem told_2b {k : Int} (off : Nat) (zs : List Int) (h : ¬ k < 27) : toldP k off 2 zs = ((zs.set (off + (outsN k + 1)) 0).set (off + (outsN k + 2)) 0).set (off + (outsN k + 5 + 1)) 0 := by
 unfold toldP
 rw [if_neg (by decide), if_pos (by decide), if_pos rfl, if_neg h]
theorem told_3 (k : Int) (off : Nat) (zs : List Int) : toldP k off 3 zs = (((zs.set (off + (outsN k + 1)) 0).set (off + (outsN k + 2)) 0).set (off + (outsN k + 5 + 1)) 0).set (off + (outsN k + 3)) 1 := by
 unfold toldP
 rw [if_neg (by decide), if_pos (by decide), if_neg (by decide), if_pos rfl]
theorem told_4 (k : Int) (off : Nat) (zs : List Int) : toldP k off 4 zs = (((zs.set (off + (outsN k + 1)) 0).set (off + (outsN k + 2)) 0).set (off + (outsN k + 5 + 1)) 0).set (off + (outsN k + 4)) 1 := by
 unfold toldP
 rw [if_neg (by decide), if_pos (by decide), if_neg (by decide), if_neg (by decide)]
theorem told_5 (k : Int) (off : Nat) (zs : List Int) : toldP k off 5 zs = (((zs.set (off + (outsN k + 1)) 0).set (off + (outsN k + 2)) 0).set (off + (outsN k + 5 + 1)) 0).set (off + (outsN k + 4)) 1 := by
 unfold toldP
 rw [if_neg (by decide), if_pos (by decide), if_neg (by decide), if_neg (by decide)]
theorem told_out (k : Int) (off : Nat) {what : Int} (zs : List Int) (h : what < 1 ∨ 5 < what) : toldP k off what zs = zs := by
 unfold toldP
 rw [if_neg (by omega), if_neg (by omega)]
theorem outsN_le (k : Int) : outsN k ≤ rcount k := by
 unfold outsN
 exact Nat.le_trans (takeWhile_len_le _) (by simp)

set_option maxRecDepth 100000 in
set_option maxHeartbeats 16000000 in
theorem rtellS_at (p : Prg) (cs : List Value) (zs : List Int) (A : Option Addr) (n c : Nat) (xs : List AxS) (Ax : Option Addr) (kx : Nat) (ll : List (List (Int × Int))) (Ar : Option Addr) (kr : Nat) (w : World)
  (h : PrgAt w p cs) (hfit : ∀ v ∈ p.vars, ArrOk v) (hmot : ∀ v ∈ p.vars, v.arr = true → v.type ≤ 2) (hn64 : p.vars.length ≤ 64) (hr : RowN w A zs c) (hl : zs.length = n) (hn : n ≤ 16384) (hx : RowX w Ax xs kx) (hf : xs.length ≤ 4) (hrr : RowRR w Ar ll kr) :
  Calls Tryd.prog 23 #[.agg cs.toArray, .slice A n c, .slice Ax xs.length kx, .slice Ar ll.length kr] w fun e w' => (∃ v, e = .returned v ∧ ∃ A' c', v = .slice A' n c' ∧ RowN w' A' (if n = sumN p.vars then tellP (blks p.vars) xs ll zs else zs) c') ∧ Below w.heap.size w w' := by
 obtain ⟨Av, kv, Ab, kb, rfl, hv, hbd⟩ := h
 have HOF : Hid (∀ W, Below w.heap.size w W → Calls Tryd.prog 11 #[.agg #[.string p.name, .slice Av p.vars.length kv, .slice Ab p.body.length kb]] W fun e w' => (∃ v, e = .returned v ∧ LayR W p.vars v w') ∧ Below W.heap.size W w') := Lib.hid (fun W hW => of22_any p _ W ⟨Av, kv, Ab, kb, rfl, hv.below hW, hbd.below hW⟩ hfit hn64)
 have HIN : Hid (∀ W, Below w.heap.size w W → Calls Tryd.prog 43 #[.agg #[.string p.name, .slice Av p.vars.length kv, .slice Ab p.body.length kb]] W fun e w' => (∃ v, e = .returned v ∧ w'.ownsRow W.heap.size 90 3 v (blks p.vars).length (rbCs (blks p.vars))) ∧ Below W.heap.size W w') := Lib.hid (fun W hW => rblocks_at p _ W ⟨Av, kv, Ab, kb, rfl, hv.below hW, hbd.below hW⟩ hfit hmot hn64)
 have HOK := Lib.hid (blksT_ok hmot p.vars.length (Nat.le_refl _))
 have HX := Lib.hid hx
 have HRR := Lib.hid hrr
 have HRN := Lib.hid hr
 have HL := Lib.hid hl
 obtain ⟨nx, hnx⟩ : ∃ m, xs.length = m := ⟨_, rfl⟩
 obtain ⟨nr, hnr⟩ : ∃ m, ll.length = m := ⟨_, rfl⟩
 obtain ⟨m, hm⟩ : ∃ m, p.vars.length = m := ⟨_, rfl⟩
 obtain ⟨nb, hnb⟩ : ∃ m, p.body.length = m := ⟨_, rfl⟩
 obtain ⟨sm, hsm⟩ : ∃ s, sumN p.vars = s := ⟨_, rfl⟩
 obtain ⟨bl, hbl⟩ : ∃ b, blks p.vars = b := ⟨_, rfl⟩
 have hok := HOK.out
 have hbl0 : blksT p.vars p.vars.length = bl := hbl
 rw [hbl0, hsm] at hok
 have HBO := Lib.hid hok
 have HNX := Lib.hid hnx
 have HNR := Lib.hid hnr
 have HSM := Lib.hid hsm
 have hblm : bl.length ≤ m := by rw [← hbl0, ← hm]; exact blksT_len _ _
 have hr1 := hrr.1
 have hr2 := hrr.2.1
 have hx1 := hx.1
 have hx2 := hx.2.1
 rw [hnr] at hr1
 rw [hnx] at hx1 hf
 rw [hbl] at HIN
 rw [hm] at hn64
 show Calls Tryd.prog 23 #[.agg #[.string p.name, .slice Av p.vars.length kv, .slice Ab p.body.length kb], .slice A n c, .slice Ax xs.length kx, .slice Ar ll.length kr] w _
 rw [hsm, hbl, hm, hnb, hnx, hnr]
 obtain ⟨RES, hRES⟩ : ∃ r, (if n = sm then tellP bl xs ll zs else zs) = r := ⟨_, rfl⟩
 rw [hRES]
 have HRES := Lib.hid hRES
 clear hRES
 rw [hm, hnb] at HOF HIN
 have hc1 := hr.1
 have hc2 := hr.2.1
 rw [hl] at hc1
 clear hv hbd hfit hmot hx hrr hr hl hnx hnr hm hnb hsm hbl hbl0 hok HOK
 go_enter Tryd.func23, Tryd.ntmps23
 go_upto_region 1 with (fail)
 refine wp_name fun W hW => ?_
 obtain ⟨B, hB⟩ : ∃ B, B = w.heap.size := ⟨_, rfl⟩
 have HC : Hid (∀ W', Below W.heap.size W W' → W'.cell? ⟨B, 0, none⟩ = some (.string p.name) ∧ W'.cell? ⟨B, 1, none⟩ = some (.slice Av m kv) ∧ W'.cell? ⟨B, 2, none⟩ = some (.slice Ab nb kb) ∧ B < W'.heap.size) := Lib.hid (fun W' hW' => by
  have hl : B < W.heap.size := by rw [hW.out, hB]; simp
  exact ⟨(hW'.cell (p := ⟨B, 0, none⟩) hl).trans (by rw [hW.out, hB]; go_simp), (hW'.cell (p := ⟨B, 1, none⟩) hl).trans (by rw [hW.out, hB]; go_simp), (hW'.cell (p := ⟨B, 2, none⟩) hl).trans (by rw [hW.out, hB]; go_simp), Nat.lt_of_lt_of_le hl hW'.size⟩)
 have hbel : Below w.heap.size w W := by rw [hW.out]; (repeat' (first | with_reducible (first | exact Below.refl _ _ | assumption | refine below_drewN ?_ _ | refine Below.drew ?_ | refine below_new ?_ (Nat.le_refl _) _ | refine Below.setCell ?_ ?_ _ | refine below_go ?_ (by assumption) (Nat.le_refl _)) | (simp; done) | (simp; omega) | omega))
 have HB := Lib.hid hbel
 have HFZ : Hid (∀ W', Below W.heap.size W W' → w.heap.size ≤ B ∧ Row W' B []) := Lib.hid (fun W' hW' => by
  have hh : W.heap[B]? = some (.cells #[.string p.name, .slice Av m kv, .slice Ab nb kb] 25) := by rw [hW.out, hB]; exact heap_alloc_new _ _
  have hl : B < W.heap.size := (Array.getElem?_eq_some_iff.1 hh).1
  exact ⟨by omega, ⟨Nat.lt_of_lt_of_le hl hW'.size, fun j z hz => by simp at hz, fun o => (hW'.frozen (p := ⟨B, o, none⟩) hl).trans (heap_free o hh)⟩⟩)
 (try rw [← hB])
 clear hW hbel hB
 go_upto_region 2 with (at_builtin; refine wpList_copy rfl _ _ rfl W zs A n c rfl rfl (HRN.out.below HB.out) HL.out hn ?_)
 intro A1 k1 w1 hown hb1
 have HO1 := Lib.hid hown
 have HS1 := Lib.hid hb1
 have HB1 := Lib.hid (HB.out.trans (hb1.mono HB.out.size))
 obtain ⟨c0, c1', c2, lB⟩ := HC.out w1 HS1.out
 have hz1 := HB1.out.size
 clear hb1 hown
 go_wp2_with fail
 refine (HOF.out w1 HB1.out).mono ?_
 rintro e w2 ⟨⟨v2, rfl, ⟨vA, vF, rfl, -, -⟩⟩, hb2⟩
 rw [HSM.out]
 have hfd : ∀ W : World, (Instr.field 32 (.agg #[vA, .int .i64 (sm : Int), vF]) 1).run Tryd.prog W = .ok (.int .i64 (sm : Int)) W := fun W => by kernel_rfl
 have HS2 := Lib.hid (HS1.out.trans (hb2.mono HS1.out.size))
 have HB2 := Lib.hid (HB1.out.trans (hb2.mono HB1.out.size))
 have HO2 := Lib.hid (owns_below HO1.out hb2)
 clear hb2 c0 c1' c2 lB
 obtain ⟨c0, c1', c2, lB⟩ := HC.out w2 HS2.out
 by_cases hsn : n = sm
 ·have usn : ((n : Int) != (sm : Int)) = false := by simp [hsn]
  have hbo := HBO.out
  rw [← hsn] at hbo
  have HBO := Lib.hid hbo
  have HSN := Lib.hid hsn
  obtain ⟨AO, kO, hvO, hnO, hcO, -⟩ := own_form HO2.out
  cases hvO
  unfold maxLen at hcO
  obtain ⟨g, hg1, hgw, hrow2, -⟩ := copy_at (w := w) (w1 := w1) (B := B) HO2.out HL.out HB.out.size (HFZ.out w2 HS2.out)
  have HG1 := Lib.hid hg1
  have HRW := Lib.hid hrow2
  clear hsn hbo hg1 hrow2
  go_wp2_with fail
  refine (HIN.out w2 HB2.out).mono ?_
  rintro e w3 ⟨⟨v3, rfl, hown3⟩, hb3⟩
  obtain ⟨A3, k3, q, rfl, hq1, hq2, hq3, hqg, hql, hins⟩ := rs_start hown3 HRW.out.lt hb3.size
  have HA3 := Lib.hid hq3
  have HT0 : Hid (RS w w3 g q n bl zs) := Lib.hid ⟨HRW.out.below hb3, HL.out, hgw, HB2.out.trans (hb3.mono HB2.out.size), hqg, hql, hins⟩
  obtain ⟨nbk, hnbk⟩ : ∃ x, bl.length = x := ⟨_, rfl⟩
  rw [hnbk] at hq1 ⊢
  have HNB := Lib.hid hnbk
  clear hown3 hb3 hq3 hins hnbk c0 c1' c2 lB hqg hql HRW HO2 HO1
  go_upto_region 6 with (fail)
  go_loopw [11] (fun u wr => ∃ (i : Nat), i ≤ nr ∧ u = .int .i64 i ∧ Hid (RS w wr g q n bl (repssP bl (ll.take i) zs))) (fun u _ => nr - (intOf u).toNat)
  case atStart => exact ⟨0, by omega, rfl, HT0⟩
  case round =>
   obtain ⟨i, hi, rfl, HTI⟩ := hrel
   obtain ⟨zI, hzI⟩ : ∃ z, repssP bl (ll.take i) zs = z := ⟨_, rfl⟩
   have HZI := Lib.hid hzI
   rw [hzI] at HTI
   clear hzI
   by_cases hlt1 : i < nr
   ·obtain ⟨bq, oq, l, cq, hAr, hbq, hlx, ⟨Al, kl, rfl, hrl⟩, hcq⟩ := RowOf.at HRR.out (i := i) (by rw [HNR.out]; exact hlt1)
    have hi1 : (0 : Int) ≤ (i : Int) ∧ (i : Int) < (nr : Int) := by omega
    obtain ⟨nl, hnl⟩ : ∃ x, l.length = x := ⟨_, rfl⟩
    have q0w : w.cell? ⟨bq, oq + i, none⟩ = some (.slice Al nl kl) := by have h0 := hcq 0 (by omega); rw [Nat.mul_one, Nat.add_zero, hnl] at h0; exact h0
    have HQ0 : Hid (∀ W, Below w.heap.size w W → W.cell? ⟨bq, oq + i, none⟩ = some (.slice Al nl kl) ∧ bq < W.heap.size) := Lib.hid (fun W h => ⟨(h.cell (p := ⟨bq, oq + i, none⟩) hbq).trans q0w, Nat.lt_of_lt_of_le hbq h.size⟩)
    have hl1 := hrl.1
    have hl2 := hrl.2.1
    rw [hnl] at hl1
    have HNL := Lib.hid hnl
    have HLX := Lib.hid hlx
    have HRL : Hid (RowR w Al l kl) := Lib.hid hrl
    subst hAr
    clear hcq hlx hrl hnl q0w hbq
    have HZN1 : Hid (repssP bl (ll.take (i + 1)) zs = repsP bl l zI) := Lib.hid (by
     unfold repssP
     rw [fold_take _ zs HLX.out]
     have := HZI.out
     unfold repssP at this
     rw [this])
    go_upto_region 9 with (fail)
    go_loopw [12] (fun u wr => ∃ (j : Nat), j ≤ nl ∧ u = .int .i64 j ∧ Hid (RS w wr g q n bl (repsP bl (l.take j) zI))) (fun u _ => nl - (intOf u).toNat)
    case atStart => exact ⟨0, by omega, rfl, HTI⟩
    case round =>
     obtain ⟨j, hj, rfl, HTJ⟩ := hrel
     obtain ⟨zJ, hzJ⟩ : ∃ z, repsP bl (l.take j) zI = z := ⟨_, rfl⟩
     have HZJ := Lib.hid hzJ
     rw [hzJ] at HTJ
     clear hzJ
     obtain ⟨q0, lq0⟩ := HQ0.out wr HTJ.out.old
     by_cases hlt2 : j < nl
     ·obtain ⟨br, orr, ⟨rid, rwh⟩, cr, hAl, hbr, hr, ⟨rfl, hi1', hi2'⟩, hcr⟩ := RowOf.at (HRL.out.below HTJ.out.old) (i := j) (by rw [HNL.out]; exact hlt2)
      have hj2 : (0 : Int) ≤ (j : Int) ∧ (j : Int) < (nl : Int) := by omega
      have r0 : wr.cell? ⟨br, orr + j * 2, none⟩ = some (.int .i64 rid) := hcr 0 (by omega)
      have r1 : wr.cell? ⟨br, orr + j * 2 + 1, none⟩ = some (.int .i64 rwh) := hcr 1 (by omega)
      have HRJ := Lib.hid hr
      subst hAl
      clear hcr hr hi1' hi2'
      have HZM : Hid (repsP bl (l.take (j + 1)) zI = repP bl rid rwh zJ) := Lib.hid (by
       unfold repsP
       rw [fold_take _ zI HRJ.out]
       have := HZJ.out
       unfold repsP at this
       rw [this])
      go_upto_region 12 with (fail)
      refine wp_name fun W3 hW3 => ?_
      obtain ⟨D, hD⟩ : ∃ D, D = wr.heap.size := ⟨_, rfl⟩
      have hhD : W3.heap[D]? = some (.cells #[.int .i64 rid, .int .i64 rwh] 78) := by rw [hW3.out, hD]; exact heap_alloc_new _ _
      have hb3 : Below wr.heap.size wr W3 := by rw [hW3.out]; (repeat' (first | with_reducible (first | exact Below.refl _ _ | assumption | refine below_drewN ?_ _ | refine Below.drew ?_ | refine below_new ?_ (Nat.le_refl _) _ | refine Below.setCell ?_ ?_ _ | refine below_go ?_ (by assumption) (Nat.le_refl _)) | (simp; done) | (simp; omega) | omega))
      have HDJ : Hid (W3.cell? ⟨D, 0, none⟩ = some (.int .i64 rid) ∧ W3.cell? ⟨D, 1, none⟩ = some (.int .i64 rwh) ∧ D < W3.heap.size) := Lib.hid ⟨heap_cell 0 _ hhD rfl, heap_cell 1 _ hhD rfl, (Array.getElem?_eq_some_iff.1 hhD).1⟩
      have hDg : D ≠ g := fun e => by have := HTJ.out.row.lt; omega
      have HTJ0 := Lib.hid (HTJ.out.below hb3)
      (try rw [← hD])
      (try simp only [Act.put])
      clear hW3 hD hhD hb3 r0 r1 HTJ q0 lq0
      have HTJ := HTJ0
      clear HTJ0
      go_upto_region 13 with (fail)
      go_loopw [14] (fun u wr => ∃ (k : Nat), k ≤ nbk ∧ u = .int .i64 k ∧ Hid (RS w wr g q n bl (repP (bl.take k) rid rwh zJ)) ∧ Hid (wr.cell? ⟨D, 0, none⟩ = some (.int .i64 rid) ∧ wr.cell? ⟨D, 1, none⟩ = some (.int .i64 rwh) ∧ D < wr.heap.size)) (fun u _ => nbk - (intOf u).toNat)
      case atStart => exact ⟨0, by omega, rfl, HTJ, HDJ⟩
      case round =>
       obtain ⟨k, hk, rfl, HTK, HDwr⟩ := hrel
       obtain ⟨zK, hzK⟩ : ∃ z, repP (bl.take k) rid rwh zJ = z := ⟨_, rfl⟩
       have HZK := Lib.hid hzK
       rw [hzK] at HTK
       clear hzK
       by_cases hlt3 : k < nbk
       ·obtain ⟨b, hb⟩ : ∃ b, bl[k]? = some b := ⟨_, List.getElem?_eq_getElem (by rw [HNB.out]; exact hlt3)⟩
        have hk3 : (0 : Int) ≤ (k : Int) ∧ (k : Int) < (nbk : Int) := by omega
        have HBK := Lib.hid hb
        have HBM := Lib.hid (List.mem_of_getElem? hb)
        have HNE : Hid (bl ≠ []) := Lib.hid (fun e => by rw [e] at hb; simp at hb)
        have hA3 := HA3.out HNE.out
        have hblen := HBO.out.len b HBM.out
        have hole := outsN_le b.kind
        obtain ⟨O, hO⟩ : ∃ x, outsN b.kind = x := ⟨_, rfl⟩
        have HO := Lib.hid hO
        have HOU := Lib.hid (fun w => outs_any b.kind w)
        rw [hO] at HOU hole
        obtain ⟨o, ho⟩ : ∃ x, x = b.off + O := ⟨_, rfl⟩
        have hwo : IntKind.i64.wrap ((b.off : Int) + (O : Int)) = (o : Int) := by rw [IntKind.wrap_i64]; omega
        have HOO := Lib.hid ho
        have HBL2 := Lib.hid hblen
        subst hA3
        clear hb hO ho
        have b1 : wr.cell? ⟨q, k * 3 + 1, none⟩ = some (.int .i64 b.kind) := HTK.out.ins k b HBK.out 1 _ rfl
        have b2 : wr.cell? ⟨q, k * 3 + 2, none⟩ = some (.int .i64 (b.off : Int)) := HTK.out.ins k b HBK.out 2 _ rfl
        have hql := HTK.out.ql HNE.out
        go_upto_region 15 with (fail)
        refine wp_region_ext (by kernel_rfl) (by kernel_rfl) ?_
        repeat (go_big_quiet_step ((go_at_call 44; with_reducible exact ext_call (HOU.out _))))
        refine wpQuiet_nil ?_
        intro w5 hb5
        replace hb5 := ext_below hb5
        have HT5 := Lib.hid (HTK.out.below hb5)
        have HDw5 : Hid (w5.cell? ⟨D, 0, none⟩ = some (.int .i64 rid) ∧ w5.cell? ⟨D, 1, none⟩ = some (.int .i64 rwh) ∧ D < w5.heap.size) := Lib.hid ⟨((But.of_below (g := g) hb5).cell D 0 HDwr.out.2.2 hDg).trans HDwr.out.1, ((But.of_below (g := g) hb5).cell D 1 HDwr.out.2.2 hDg).trans HDwr.out.2.1, Nat.lt_of_lt_of_le HDwr.out.2.2 (But.of_below (g := g) hb5).size⟩
        clear hb5 b1 b2 hql hwo hblen hole
        have b1 : w5.cell? ⟨q, k * 3 + 1, none⟩ = some (.int .i64 b.kind) := HT5.out.ins k b HBK.out 1 _ rfl
        have b2 : w5.cell? ⟨q, k * 3 + 2, none⟩ = some (.int .i64 (b.off : Int)) := HT5.out.ins k b HBK.out 2 _ rfl
        have hql := HT5.out.ql HNE.out
        obtain ⟨e0, e1, lD⟩ := HDw5.out
        obtain ⟨cb, hcb⟩ : ∃ x, cmdB b.kind = x := ⟨_, rfl⟩
        have HCM := Lib.hid (fun w => rcommand_any b.kind w)
        rw [hcb] at HCM
        have HCB := Lib.hid hcb
        clear hcb
        cases cb
        ·as_aux_lemma =>
          have HZN : Hid (repP (bl.take (k + 1)) rid rwh zJ = zK) := Lib.hid (by
           unfold repP
           rw [fold_take (rep1 rid rwh) zJ HBK.out]
           have := HZK.out
           unfold repP at this
           rw [this]
           exact rep1_no1 HCB.out)
          go_upto_region 16 with (fail)
          refine wp_region_ext (by kernel_rfl) (by kernel_rfl) ?_
          repeat (go_big_quiet_step ((go_at_call 45; with_reducible exact ext_same (HCM.out _))))
          refine wpQuiet_nil ?_
          intro w6 hb6
          replace hb6 := ext_below hb6
          have HT6 := Lib.hid (HT5.out.below hb6)
          have HDw6 : Hid (w6.cell? ⟨D, 0, none⟩ = some (.int .i64 rid) ∧ w6.cell? ⟨D, 1, none⟩ = some (.int .i64 rwh) ∧ D < w6.heap.size) := Lib.hid ⟨((But.of_below (g := g) hb6).cell D 0 HDw5.out.2.2 hDg).trans HDw5.out.1, ((But.of_below (g := g) hb6).cell D 1 HDw5.out.2.2 hDg).trans HDw5.out.2.1, Nat.lt_of_lt_of_le HDw5.out.2.2 (But.of_below (g := g) hb6).size⟩
          clear b1 b2 hql e0 e1 lD hb6
          go_wp2
          go_roundw
          case rel => exact ⟨k + 1, by omega, by go_num, Lib.hid (by rw [HZN.out]; exact HT6.out), HDw6⟩
          case measure => simp [intOf]; omega
        ·by_cases hid : rid = 0
         ·as_aux_lemma =>
           have HID := Lib.hid hid
           have uid : (rid == 0) = true := by simp [hid]
           clear hid
           have HZN : Hid (repP (bl.take (k + 1)) rid rwh zJ = zK) := Lib.hid (by
            unfold repP
            rw [fold_take (rep1 rid rwh) zJ HBK.out]
            have := HZK.out
            unfold repP at this
            rw [this]
            exact rep1_no2 HID.out)
           go_upto_region 16 with (fail)
           refine wp_region_ext (by kernel_rfl) (by kernel_rfl) ?_
           repeat (go_big_quiet_step ((go_at_call 45; with_reducible exact ext_same (HCM.out _))))
           refine wpQuiet_nil ?_
           intro w6 hb6
           replace hb6 := ext_below hb6
           have HT6 := Lib.hid (HT5.out.below hb6)
           have HDw6 : Hid (w6.cell? ⟨D, 0, none⟩ = some (.int .i64 rid) ∧ w6.cell? ⟨D, 1, none⟩ = some (.int .i64 rwh) ∧ D < w6.heap.size) := Lib.hid ⟨((But.of_below (g := g) hb6).cell D 0 HDw5.out.2.2 hDg).trans HDw5.out.1, ((But.of_below (g := g) hb6).cell D 1 HDw5.out.2.2 hDg).trans HDw5.out.2.1, Nat.lt_of_lt_of_le HDw5.out.2.2 (But.of_below (g := g) hb6).size⟩
           clear b1 b2 hql e0 e1 lD hb6
           go_wp2
           go_roundw
           case rel => exact ⟨k + 1, by omega, by go_num, Lib.hid (by rw [HZN.out]; exact HT6.out), HDw6⟩
           case measure => simp [intOf]; omega
         ·have uid : (rid == 0) = false := by simp [hid]
          have HID := Lib.hid hid
          clear hid
          have hcnt := (cmdK (show 21 ≤ b.kind ∧ b.kind ≤ 28 by have := HCB.out; unfold cmdB at this; simpa only [Bool.and_eq_true, decide_eq_true_eq] using this)).cnt
          rw [HO.out] at hcnt
          have hblen := HBL2.out
          have hoo := HOO.out
          have hzl := HT5.out.len
          obtain ⟨o1, ho1⟩ : ∃ x, x = o + 1 := ⟨_, rfl⟩
          have hw1 : IntKind.i64.wrap ((o : Int) + 1) = (o1 : Int) := by rw [IntKind.wrap_i64]; omega
          have hi1 : (0 : Int) ≤ (o1 : Int) ∧ (o1 : Int) < (n : Int) := by omega
          have HO1 : Hid (b.off + (outsN b.kind + 1) = o1) := Lib.hid (by rw [HO.out]; omega)
          obtain ⟨x1, hx1⟩ : ∃ x, zK[o1]? = some x := ⟨_, List.getElem?_eq_getElem (by omega)⟩
          have HX1 := Lib.hid hx1
          obtain ⟨o2, ho2⟩ : ∃ x, x = o + 2 := ⟨_, rfl⟩
          have hw2 : IntKind.i64.wrap ((o : Int) + 2) = (o2 : Int) := by rw [IntKind.wrap_i64]; omega
          have hi2 : (0 : Int) ≤ (o2 : Int) ∧ (o2 : Int) < (n : Int) := by omega
          have HO2 : Hid (b.off + (outsN b.kind + 2) = o2) := Lib.hid (by rw [HO.out]; omega)
          obtain ⟨x2, hx2⟩ : ∃ x, zK[o2]? = some x := ⟨_, List.getElem?_eq_getElem (by omega)⟩
          have HX2 := Lib.hid hx2
          obtain ⟨o3, ho3⟩ : ∃ x, x = o + 3 := ⟨_, rfl⟩
          have hw3 : IntKind.i64.wrap ((o : Int) + 3) = (o3 : Int) := by rw [IntKind.wrap_i64]; omega
          have hi3 : (0 : Int) ≤ (o3 : Int) ∧ (o3 : Int) < (n : Int) := by omega
          have HO3 : Hid (b.off + (outsN b.kind + 3) = o3) := Lib.hid (by rw [HO.out]; omega)
          obtain ⟨x3, hx3⟩ : ∃ x, zK[o3]? = some x := ⟨_, List.getElem?_eq_getElem (by omega)⟩
          have HX3 := Lib.hid hx3
          obtain ⟨o4, ho4⟩ : ∃ x, x = o + 4 := ⟨_, rfl⟩
          have hw4 : IntKind.i64.wrap ((o : Int) + 4) = (o4 : Int) := by rw [IntKind.wrap_i64]; omega
          have hi4 : (0 : Int) ≤ (o4 : Int) ∧ (o4 : Int) < (n : Int) := by omega
          have HO4 : Hid (b.off + (outsN b.kind + 4) = o4) := Lib.hid (by rw [HO.out]; omega)
          obtain ⟨x4, hx4⟩ : ∃ x, zK[o4]? = some x := ⟨_, List.getElem?_eq_getElem (by omega)⟩
          have HX4 := Lib.hid hx4
          obtain ⟨o6, ho6⟩ : ∃ x, x = o + 6 := ⟨_, rfl⟩
          have hw6 : IntKind.i64.wrap ((o : Int) + 6) = (o6 : Int) := by rw [IntKind.wrap_i64]; omega
          have hi6 : (0 : Int) ≤ (o6 : Int) ∧ (o6 : Int) < (n : Int) := by omega
          have HO6 : Hid (b.off + (outsN b.kind + 5 + 1) = o6) := Lib.hid (by rw [HO.out]; omega)
          obtain ⟨x6, hx6⟩ : ∃ x, zK[o6]? = some x := ⟨_, List.getElem?_eq_getElem (by omega)⟩
          have HX6 := Lib.hid hx6
          have hi0 : (0 : Int) ≤ (o : Int) ∧ (o : Int) < (n : Int) := by omega
          have HO0 : Hid (b.off + outsN b.kind = o) := Lib.hid (by rw [HO.out]; omega)
          obtain ⟨x0, hx0⟩ : ∃ x, zK[o]? = some x := ⟨_, List.getElem?_eq_getElem (by omega)⟩
          have HX0 := Lib.hid hx0
          have HAR : Hid (o1 = o + 1 ∧ o2 = o + 2 ∧ o3 = o + 3 ∧ o4 = o + 4 ∧ o6 = o + 6) := Lib.hid ⟨ho1, ho2, ho3, ho4, ho6⟩
          have hA1 := HG1.out (by omega)
          subst hA1
          clear hcnt hblen hoo hzl ho1 ho2 ho3 ho4 ho6 hx0 hx1 hx2 hx3 hx4 hx6
          have y6 : w5.cell? ⟨g, o6, none⟩ = some (.int .i64 x6) := HT5.out.row.cell _ _ HX6.out
          have lg := HT5.out.row.lt
          by_cases hxe : x6 = rid
          ·have uxe : (x6 != rid) = false := by simp [hxe]
           have HXE := Lib.hid hxe
           clear hxe
           by_cases hlo : rwh < 1
           ·have HLO := Lib.hid hlo
            as_aux_lemma =>
             have HZN : Hid (repP (bl.take (k + 1)) rid rwh zJ = zK) := Lib.hid (by
              unfold repP
              rw [fold_take (rep1 rid rwh) zJ HBK.out]
              have := HZK.out
              unfold repP at this
              rw [this]
              exact (rep1_yes HCB.out HID.out (by rw [HO6.out, HX6.out, HXE.out])).trans (told_out _ _ _ (Or.inl HLO.out)))
             go_upto_region 16 with (fail)
             refine wp_region_ext (by kernel_rfl) (by kernel_rfl) ?_
             repeat (go_big_quiet_step ((go_at_call 45; with_reducible exact ext_same (HCM.out _))))
             refine wpQuiet_nil ?_
             intro w6 hb6
             replace hb6 := ext_below hb6
             have HT6 := Lib.hid (HT5.out.below hb6)
             have HDw6 : Hid (w6.cell? ⟨D, 0, none⟩ = some (.int .i64 rid) ∧ w6.cell? ⟨D, 1, none⟩ = some (.int .i64 rwh) ∧ D < w6.heap.size) := Lib.hid ⟨((But.of_below (g := g) hb6).cell D 0 HDw5.out.2.2 hDg).trans HDw5.out.1, ((But.of_below (g := g) hb6).cell D 1 HDw5.out.2.2 hDg).trans HDw5.out.2.1, Nat.lt_of_lt_of_le HDw5.out.2.2 (But.of_below (g := g) hb6).size⟩
             clear b1 b2 hql e0 e1 lD hb6
             clear y6 lg
             go_wp2
             go_roundw
             case rel => exact ⟨k + 1, by omega, by go_num, Lib.hid (by rw [HZN.out]; exact HT6.out), HDw6⟩
             case measure => simp [intOf]; omega
           ·by_cases hhi : 5 < rwh
            ·as_aux_lemma =>
              have HHI := Lib.hid hhi
              have HZN : Hid (repP (bl.take (k + 1)) rid rwh zJ = zK) := Lib.hid (by
               unfold repP
               rw [fold_take (rep1 rid rwh) zJ HBK.out]
               have := HZK.out
               unfold repP at this
               rw [this]
               exact (rep1_yes HCB.out HID.out (by rw [HO6.out, HX6.out, HXE.out])).trans (told_out _ _ _ (Or.inr HHI.out)))
              go_upto_region 16 with (fail)
              refine wp_region_ext (by kernel_rfl) (by kernel_rfl) ?_
              repeat (go_big_quiet_step ((go_at_call 45; with_reducible exact ext_same (HCM.out _))))
              refine wpQuiet_nil ?_
              intro w6 hb6
              replace hb6 := ext_below hb6
              have HT6 := Lib.hid (HT5.out.below hb6)
              have HDw6 : Hid (w6.cell? ⟨D, 0, none⟩ = some (.int .i64 rid) ∧ w6.cell? ⟨D, 1, none⟩ = some (.int .i64 rwh) ∧ D < w6.heap.size) := Lib.hid ⟨((But.of_below (g := g) hb6).cell D 0 HDw5.out.2.2 hDg).trans HDw5.out.1, ((But.of_below (g := g) hb6).cell D 1 HDw5.out.2.2 hDg).trans HDw5.out.2.1, Nat.lt_of_lt_of_le HDw5.out.2.2 (But.of_below (g := g) hb6).size⟩
              clear b1 b2 hql e0 e1 lD hb6
              clear y6 lg
              go_wp2
              go_roundw
              case rel => exact ⟨k + 1, by omega, by go_num, Lib.hid (by rw [HZN.out]; exact HT6.out), HDw6⟩
              case measure => simp [intOf]; omega
            ·by_cases hr : rwh = 1
             ·as_aux_lemma =>
               have HRW := Lib.hid hr
               rw [HRW.out] at e1
               clear hlo hhi hr
               have HZN : Hid (repP (bl.take (k + 1)) rid rwh zJ = (zK.set o2 1)) := Lib.hid (by
                unfold repP
                rw [fold_take (rep1 rid rwh) zJ HBK.out]
                have := HZK.out
                unfold repP at this
                rw [this]
                exact (rep1_yes HCB.out HID.out (by rw [HO6.out, HX6.out, HXE.out])).trans (by rw [HRW.out, told_1]; rw [HO2.out]))
               go_upto_region 16 with (fail)
               refine wp_region_ext (by kernel_rfl) (by kernel_rfl) ?_
               repeat (go_big_quiet_step ((go_at_call 45; with_reducible exact ext_same (HCM.out _))))
               refine wpQuiet_nil ?_
               intro w6 hb6
               replace hb6 := ext_below hb6
               have HT6 := Lib.hid (HT5.out.below hb6)
               have HDw6 : Hid (w6.cell? ⟨D, 0, none⟩ = some (.int .i64 rid) ∧ w6.cell? ⟨D, 1, none⟩ = some (.int .i64 rwh) ∧ D < w6.heap.size) := Lib.hid ⟨((But.of_below (g := g) hb6).cell D 0 HDw5.out.2.2 hDg).trans HDw5.out.1, ((But.of_below (g := g) hb6).cell D 1 HDw5.out.2.2 hDg).trans HDw5.out.2.1, Nat.lt_of_lt_of_le HDw5.out.2.2 (But.of_below (g := g) hb6).size⟩
               clear b1 b2 hql e0 e1 lD hb6
               clear y6 lg
               have b1 : w6.cell? ⟨q, k * 3 + 1, none⟩ = some (.int .i64 b.kind) := HT6.out.ins k b HBK.out 1 _ rfl
               have b2 : w6.cell? ⟨q, k * 3 + 2, none⟩ = some (.int .i64 (b.off : Int)) := HT6.out.ins k b HBK.out 2 _ rfl
               have hql := HT6.out.ql HNE.out
               obtain ⟨e0, e1, lD⟩ := HDw6.out
               rw [HRW.out] at e1
               have lg := HT6.out.row.lt
               have y2 : w6.cell? ⟨g, o2, none⟩ = some (.int .i64 x2) := HT6.out.row.cell _ _ HX2.out
               have f2 := HT6.out.row.free o2
               have hgD : ¬ D = g := hDg
               have hgD2 : ¬ g = D := fun e => hDg e.symm
               go_upto_region 14 with (fail)
               refine wp_name fun W8 hW8 => ?_
               have HT8 : Hid (RS w W8 g q n bl (zK.set o2 1)) := Lib.hid (by rw [hW8.out]; exact HT6.out.put o2 1)
               have hbt : But g w6 W8 := by rw [hW8.out]; exact (But.refl g w6).set o2 _
               have HDW8 : Hid (W8.cell? ⟨D, 0, none⟩ = some (.int .i64 rid) ∧ W8.cell? ⟨D, 1, none⟩ = some (.int .i64 rwh) ∧ D < W8.heap.size) := Lib.hid ⟨(hbt.cell D 0 HDw6.out.2.2 hDg).trans HDw6.out.1, (hbt.cell D 1 HDw6.out.2.2 hDg).trans HDw6.out.2.1, Nat.lt_of_lt_of_le HDw6.out.2.2 hbt.size⟩
               clear b1 b2 hql e0 e1 lD y2 f2 hbt hW8 lg hgD hgD2
               go_wp2
               go_roundw
               case rel => exact ⟨k + 1, by omega, by go_num, Lib.hid (by rw [HZN.out]; exact HT8.out), HDW8⟩
               case measure => simp [intOf]; omega
             ·have ue1 : (rwh == 1) = false := by simp [hr]
              have hge2 : 2 ≤ rwh ∧ rwh ≤ 5 := by omega
              clear hr
              go_upto_region 16 with (fail)
              refine wp_region_ext (by kernel_rfl) (by kernel_rfl) ?_
              repeat (go_big_quiet_step ((go_at_call 45; with_reducible exact ext_same (HCM.out _))))
              refine wpQuiet_nil ?_
              intro w6 hb6
              replace hb6 := ext_below hb6
              have HT6 := Lib.hid (HT5.out.below hb6)
              have HDw6 : Hid (w6.cell? ⟨D, 0, none⟩ = some (.int .i64 rid) ∧ w6.cell? ⟨D, 1, none⟩ = some (.int .i64 rwh) ∧ D < w6.heap.size) := Lib.hid ⟨((But.of_below (g := g) hb6).cell D 0 HDw5.out.2.2 hDg).trans HDw5.out.1, ((But.of_below (g := g) hb6).cell D 1 HDw5.out.2.2 hDg).trans HDw5.out.2.1, Nat.lt_of_lt_of_le HDw5.out.2.2 (But.of_below (g := g) hb6).size⟩
              clear b1 b2 hql e0 e1 lD hb6
              clear y6 lg
              have b1 : w6.cell? ⟨q, k * 3 + 1, none⟩ = some (.int .i64 b.kind) := HT6.out.ins k b HBK.out 1 _ rfl
              have b2 : w6.cell? ⟨q, k * 3 + 2, none⟩ = some (.int .i64 (b.off : Int)) := HT6.out.ins k b HBK.out 2 _ rfl
              have hql := HT6.out.ql HNE.out
              obtain ⟨e0, e1, lD⟩ := HDw6.out
              have lg := HT6.out.row.lt
              have y1 : w6.cell? ⟨g, o1, none⟩ = some (.int .i64 x1) := HT6.out.row.cell _ _ HX1.out
              have f1 := HT6.out.row.free o1
              have y2 : w6.cell? ⟨g, o2, none⟩ = some (.int .i64 x2) := HT6.out.row.cell _ _ HX2.out
              have f2 := HT6.out.row.free o2
              have y6 : w6.cell? ⟨g, o6, none⟩ = some (.int .i64 x6) := HT6.out.row.cell _ _ HX6.out
              have f6 := HT6.out.row.free o6
              obtain ⟨ha1, ha2, ha3, ha4, ha6⟩ := HAR.out
              have n12 : ¬ o1 = o2 := by omega
              have n16 : ¬ o1 = o6 := by omega
              have n21 : ¬ o2 = o1 := by omega
              have n26 : ¬ o2 = o6 := by omega
              have n61 : ¬ o6 = o1 := by omega
              have n62 : ¬ o6 = o2 := by omega
              clear ha1 ha2 ha3 ha4 ha6
              go_upto_region 20 with (fail)
              refine wp_name fun W7 hW7 => ?_
              have HT7 : Hid (RS w W7 g q n bl (((zK.set o1 0).set o2 0).set o6 0)) := Lib.hid (by rw [hW7.out]; exact ((HT6.out.put o1 _).put o2 _).put o6 _)
              have hbt : But g w6 W7 := by rw [hW7.out]; exact (((But.refl g w6).set o1 _).set o2 _).set o6 _
              have HDW7 : Hid (W7.cell? ⟨D, 0, none⟩ = some (.int .i64 rid) ∧ W7.cell? ⟨D, 1, none⟩ = some (.int .i64 rwh) ∧ D < W7.heap.size) := Lib.hid ⟨(hbt.cell D 0 HDw6.out.2.2 hDg).trans HDw6.out.1, (hbt.cell D 1 HDw6.out.2.2 hDg).trans HDw6.out.2.1, Nat.lt_of_lt_of_le HDw6.out.2.2 hbt.size⟩
              clear b1 b2 hql e0 e1 lD y1 f1 y2 f2 y6 f6 n12 n16 n21 n26 n61 n62 hbt hW7 lg hlo hhi ue1
              have b1 : W7.cell? ⟨q, k * 3 + 1, none⟩ = some (.int .i64 b.kind) := HT7.out.ins k b HBK.out 1 _ rfl
              have b2 : W7.cell? ⟨q, k * 3 + 2, none⟩ = some (.int .i64 (b.off : Int)) := HT7.out.ins k b HBK.out 2 _ rfl
              have hql := HT7.out.ql HNE.out
              obtain ⟨e0, e1, lD⟩ := HDW7.out
              have lg := HT7.out.row.lt
              by_cases hr : rwh = 2
              ·as_aux_lemma =>
                have HRW := Lib.hid hr
                rw [HRW.out] at e1
                clear hr hge2
                by_cases hk27 : b.kind < 27
                ·have HK27 := Lib.hid hk27
                 have HZN : Hid (repP (bl.take (k + 1)) rid rwh zJ = ((((zK.set o1 0).set o2 0).set o6 0).set o 1)) := Lib.hid (by
                  unfold repP
                  rw [fold_take (rep1 rid rwh) zJ HBK.out]
                  have := HZK.out
                  unfold repP at this
                  rw [this]
                  exact (rep1_yes HCB.out HID.out (by rw [HO6.out, HX6.out, HXE.out])).trans (by rw [HRW.out, told_2a _ _ HK27.out]; rw [HO0.out, HO1.out, HO2.out, HO6.out]))
                 have y0 : W7.cell? ⟨g, o, none⟩ = some (.int .i64 x0) := HT7.out.row.cell _ _ (by
                  obtain ⟨ha1, ha2, ha3, ha4, ha6⟩ := HAR.out
                  rw [List.getElem?_set_ne (by omega), List.getElem?_set_ne (by omega), List.getElem?_set_ne (by omega)]
                  exact HX0.out)
                 have f0 := HT7.out.row.free o
                 have hgD : ¬ D = g := hDg
                 have hgD2 : ¬ g = D := fun e => hDg e.symm
                 go_upto_region 14 with (fail)
                 refine wp_name fun W8 hW8 => ?_
                 have HT8 : Hid (RS w W8 g q n bl ((((zK.set o1 0).set o2 0).set o6 0).set o 1)) := Lib.hid (by rw [hW8.out]; exact HT7.out.put o 1)
                 have hbt : But g W7 W8 := by rw [hW8.out]; exact (But.refl g W7).set o _
                 have HDW8 : Hid (W8.cell? ⟨D, 0, none⟩ = some (.int .i64 rid) ∧ W8.cell? ⟨D, 1, none⟩ = some (.int .i64 rwh) ∧ D < W8.heap.size) := Lib.hid ⟨(hbt.cell D 0 HDW7.out.2.2 hDg).trans HDW7.out.1, (hbt.cell D 1 HDW7.out.2.2 hDg).trans HDW7.out.2.1, Nat.lt_of_lt_of_le HDW7.out.2.2 hbt.size⟩
                 clear b1 b2 hql e0 e1 lD y0 f0 hbt hW8 lg hgD hgD2
                 go_wp2
                 go_roundw
                 case rel => exact ⟨k + 1, by omega, by go_num, Lib.hid (by rw [HZN.out]; exact HT8.out), HDW8⟩
                 case measure => simp [intOf]; omega
                ·have HK27 := Lib.hid hk27
                 have HZN : Hid (repP (bl.take (k + 1)) rid rwh zJ = (((zK.set o1 0).set o2 0).set o6 0)) := Lib.hid (by
                  unfold repP
                  rw [fold_take (rep1 rid rwh) zJ HBK.out]
                  have := HZK.out
                  unfold repP at this
                  rw [this]
                  exact (rep1_yes HCB.out HID.out (by rw [HO6.out, HX6.out, HXE.out])).trans (by rw [HRW.out, told_2b _ _ HK27.out]; rw [HO1.out, HO2.out, HO6.out]))
                 go_wp2
                 go_roundw
                 case rel => exact ⟨k + 1, by omega, by go_num, Lib.hid (by rw [HZN.out]; exact HT7.out), HDW7⟩
                 case measure => simp [intOf]; omega
              ·have h2 := hr
               clear hr
               by_cases hr : rwh = 3
               ·as_aux_lemma =>
                 clear h2
                 have HRW := Lib.hid hr
                 rw [HRW.out] at e1
                 clear hr hge2
                 have HZN : Hid (repP (bl.take (k + 1)) rid rwh zJ = ((((zK.set o1 0).set o2 0).set o6 0).set o3 1)) := Lib.hid (by
                  unfold repP
                  rw [fold_take (rep1 rid rwh) zJ HBK.out]
                  have := HZK.out
                  unfold repP at this
                  rw [this]
                  exact (rep1_yes HCB.out HID.out (by rw [HO6.out, HX6.out, HXE.out])).trans (by rw [HRW.out, told_3]; rw [HO1.out, HO2.out, HO3.out, HO6.out]))
                 have y3 : W7.cell? ⟨g, o3, none⟩ = some (.int .i64 x3) := HT7.out.row.cell _ _ (by
                  obtain ⟨ha1, ha2, ha3, ha4, ha6⟩ := HAR.out
                  rw [List.getElem?_set_ne (by omega), List.getElem?_set_ne (by omega), List.getElem?_set_ne (by omega)]
                  exact HX3.out)
                 have f3 := HT7.out.row.free o3
                 have hgD : ¬ D = g := hDg
                 have hgD2 : ¬ g = D := fun e => hDg e.symm
                 go_upto_region 14 with (fail)
                 refine wp_name fun W8 hW8 => ?_
                 have HT8 : Hid (RS w W8 g q n bl ((((zK.set o1 0).set o2 0).set o6 0).set o3 1)) := Lib.hid (by rw [hW8.out]; exact HT7.out.put o3 1)
                 have hbt : But g W7 W8 := by rw [hW8.out]; exact (But.refl g W7).set o3 _
                 have HDW8 : Hid (W8.cell? ⟨D, 0, none⟩ = some (.int .i64 rid) ∧ W8.cell? ⟨D, 1, none⟩ = some (.int .i64 rwh) ∧ D < W8.heap.size) := Lib.hid ⟨(hbt.cell D 0 HDW7.out.2.2 hDg).trans HDW7.out.1, (hbt.cell D 1 HDW7.out.2.2 hDg).trans HDW7.out.2.1, Nat.lt_of_lt_of_le HDW7.out.2.2 hbt.size⟩
                 clear b1 b2 hql e0 e1 lD y3 f3 hbt hW8 lg hgD hgD2
                 go_wp2
                 go_roundw
                 case rel => exact ⟨k + 1, by omega, by go_num, Lib.hid (by rw [HZN.out]; exact HT8.out), HDW8⟩
                 case measure => simp [intOf]; omega
               ·as_aux_lemma =>
                 have h3 := hr
                 clear hr
                 have HR4 : Hid (toldP b.kind b.off rwh zK = toldP b.kind b.off 4 zK) := Lib.hid (by
                  rcases (show rwh = 4 ∨ rwh = 5 by omega) with h | h
                  ·rw [h]
                  ·rw [h, told_4, told_5])
                 have u2 : (rwh == 2) = false := by simp [h2]
                 have u3 : (rwh == 3) = false := by simp [h3]
                 have h4 : 4 ≤ rwh := by omega
                 clear h2 h3 hge2
                 have HZN : Hid (repP (bl.take (k + 1)) rid rwh zJ = ((((zK.set o1 0).set o2 0).set o6 0).set o4 1)) := Lib.hid (by
                  unfold repP
                  rw [fold_take (rep1 rid rwh) zJ HBK.out]
                  have := HZK.out
                  unfold repP at this
                  rw [this]
                  exact (rep1_yes HCB.out HID.out (by rw [HO6.out, HX6.out, HXE.out])).trans (by rw [HR4.out, told_4]; rw [HO1.out, HO2.out, HO4.out, HO6.out]))
                 have y4 : W7.cell? ⟨g, o4, none⟩ = some (.int .i64 x4) := HT7.out.row.cell _ _ (by
                  obtain ⟨ha1, ha2, ha3, ha4, ha6⟩ := HAR.out
                  rw [List.getElem?_set_ne (by omega), List.getElem?_set_ne (by omega), List.getElem?_set_ne (by omega)]
                  exact HX4.out)
                 have f4 := HT7.out.row.free o4
                 have hgD : ¬ D = g := hDg
                 have hgD2 : ¬ g = D := fun e => hDg e.symm
                 go_upto_region 14 with (fail)
                 refine wp_name fun W8 hW8 => ?_
                 have HT8 : Hid (RS w W8 g q n bl ((((zK.set o1 0).set o2 0).set o6 0).set o4 1)) := Lib.hid (by rw [hW8.out]; exact HT7.out.put o4 1)
                 have hbt : But g W7 W8 := by rw [hW8.out]; exact (But.refl g W7).set o4 _
                 have HDW8 : Hid (W8.cell? ⟨D, 0, none⟩ = some (.int .i64 rid) ∧ W8.cell? ⟨D, 1, none⟩ = some (.int .i64 rwh) ∧ D < W8.heap.size) := Lib.hid ⟨(hbt.cell D 0 HDW7.out.2.2 hDg).trans HDW7.out.1, (hbt.cell D 1 HDW7.out.2.2 hDg).trans HDW7.out.2.1, Nat.lt_of_lt_of_le HDW7.out.2.2 hbt.size⟩
                 clear b1 b2 hql e0 e1 lD y4 f4 hbt hW8 lg hgD hgD2
                 go_wp2
                 go_roundw
                 case rel => exact ⟨k + 1, by omega, by go_num, Lib.hid (by rw [HZN.out]; exact HT8.out), HDW8⟩
                 case measure => simp [intOf]; omega
          ·as_aux_lemma =>
            have uxe : (x6 != rid) = true := by simp [hxe]
            have HXE := Lib.hid hxe
            clear hxe
            have HZN : Hid (repP (bl.take (k + 1)) rid rwh zJ = zK) := Lib.hid (by
             unfold repP
             rw [fold_take (rep1 rid rwh) zJ HBK.out]
             have := HZK.out
             unfold repP at this
             rw [this]
             exact rep1_no3 (show zK[b.off + (outsN b.kind + 5 + 1)]? = some x6 by rw [HO6.out]; exact HX6.out) HXE.out)
            go_upto_region 16 with (fail)
            refine wp_region_ext (by kernel_rfl) (by kernel_rfl) ?_
            repeat (go_big_quiet_step ((go_at_call 45; with_reducible exact ext_same (HCM.out _))))
            refine wpQuiet_nil ?_
            intro w6 hb6
            replace hb6 := ext_below hb6
            have HT6 := Lib.hid (HT5.out.below hb6)
            have HDw6 : Hid (w6.cell? ⟨D, 0, none⟩ = some (.int .i64 rid) ∧ w6.cell? ⟨D, 1, none⟩ = some (.int .i64 rwh) ∧ D < w6.heap.size) := Lib.hid ⟨((But.of_below (g := g) hb6).cell D 0 HDw5.out.2.2 hDg).trans HDw5.out.1, ((But.of_below (g := g) hb6).cell D 1 HDw5.out.2.2 hDg).trans HDw5.out.2.1, Nat.lt_of_lt_of_le HDw5.out.2.2 (But.of_below (g := g) hb6).size⟩
            clear b1 b2 hql e0 e1 lD hb6
            clear y6 lg
            go_wp2
            go_roundw
            case rel => exact ⟨k + 1, by omega, by go_num, Lib.hid (by rw [HZN.out]; exact HT6.out), HDw6⟩
            case measure => simp [intOf]; omega
       ·obtain rfl : k = nbk := by omega
        have HTE : Hid (RS w wr g q n bl (repP bl rid rwh zJ)) := Lib.hid (by have h := HTK.out; rw [← HZK.out, List.take_of_length_le (by rw [HNB.out]; exact Nat.le_refl _)] at h; exact h)
        clear HTK HZK HDwr
        go_wp2
        go_roundw
        case rel => exact ⟨j + 1, by omega, by go_num, Lib.hid (by rw [HZM.out]; exact HTE.out)⟩
        case measure => simp [intOf]; omega
     ·obtain rfl : j = nl := by omega
      have HTE : Hid (RS w wr g q n bl (repsP bl l zI)) := Lib.hid (by have h := HTJ.out; rw [← HZJ.out, List.take_of_length_le (by rw [HNL.out]; exact Nat.le_refl _)] at h; exact h)
      clear HTJ HZJ
      go_wp2
      go_roundw
      case rel => exact ⟨i + 1, by omega, by go_num, Lib.hid (by rw [HZN1.out]; exact HTE.out)⟩
      case measure => simp [intOf]; omega
   ·obtain rfl : i = nr := by omega
    obtain ⟨zR, hzR⟩ : ∃ z, repssP bl ll zs = z := ⟨_, rfl⟩
    have HZR := Lib.hid hzR
    have HTR : Hid (RS w wr g q n bl zR) := Lib.hid (by have h := HTI.out; rw [← HZI.out, List.take_of_length_le (by rw [HNR.out]; exact Nat.le_refl _), hzR] at h; exact h)
    clear HTI HZI hzR
    obtain ⟨WR, rfl⟩ : ∃ X : World, X = wr := ⟨_, rfl⟩
    go_upto_region 27 with (fail)
    go_loopw [16] (fun u wr => ∃ (k : Nat), k ≤ nbk ∧ u = .int .i64 k ∧ Hid (RS w wr g q n bl (lookP (bl.take k) xs zR))) (fun u _ => nbk - (intOf u).toNat)
    case atStart => exact ⟨0, by omega, rfl, HTR⟩
    case round =>
     obtain ⟨k, hk, rfl, HTK⟩ := hrel
     obtain ⟨zK, hzK⟩ : ∃ z, lookP (bl.take k) xs zR = z := ⟨_, rfl⟩
     have HZK := Lib.hid hzK
     rw [hzK] at HTK
     clear hzK
     by_cases hlt3 : k < nbk
     ·obtain ⟨b, hb⟩ : ∃ b, bl[k]? = some b := ⟨_, List.getElem?_eq_getElem (by rw [HNB.out]; exact hlt3)⟩
      have hk3 : (0 : Int) ≤ (k : Int) ∧ (k : Int) < (nbk : Int) := by omega
      have HBK := Lib.hid hb
      have HBM := Lib.hid (List.mem_of_getElem? hb)
      have HNE : Hid (bl ≠ []) := Lib.hid (fun e => by rw [e] at hb; simp at hb)
      have hA3 := HA3.out HNE.out
      have hblen := HBO.out.len b HBM.out
      have hone := mot_count (HBO.out.mot b HBM.out)
      have HBL2 := Lib.hid hblen
      have hzl := HTK.out.len
      obtain ⟨z0, hz0⟩ : ∃ z, zK[b.off]? = some z := ⟨_, List.getElem?_eq_getElem (by omega)⟩
      have HZ0 := Lib.hid hz0
      have c0 : wr.cell? ⟨g, b.off, none⟩ = some (.int .i64 z0) := HTK.out.row.cell _ _ hz0
      have lg := HTK.out.row.lt
      have hA1 := HG1.out (by omega)
      obtain ⟨ln, hln⟩ : ∃ x, n - b.off = x := ⟨_, rfl⟩
      have hln0 : (0 : Int) < (ln : Int) := by omega
      have sl1 : (0 : Int) ≤ (b.off : Int) ∧ (b.off : Int) ≤ (n : Int) := by omega
      have sl2 : b.off ≤ n := by omega
      have sl4 : ¬ k1 = b.off := by omega
      subst hA1 hA3
      clear hb hz0 hblen hone hzl
      have b1 : wr.cell? ⟨q, k * 3 + 1, none⟩ = some (.int .i64 b.kind) := HTK.out.ins k b HBK.out 1 _ rfl
      have b2 : wr.cell? ⟨q, k * 3 + 2, none⟩ = some (.int .i64 (b.off : Int)) := HTK.out.ins k b HBK.out 2 _ rfl
      have hql := HTK.out.ql HNE.out
      go_upto_region 30 with (fail)
      have HLN := Lib.hid hln
      clear sl1 sl2 sl4 hln
      obtain ⟨okb, hokb⟩ : ∃ x, (axP xs z0).isSome = x := ⟨_, rfl⟩
      have HOKB := Lib.hid hokb
      clear hokb
      go_cut [18] from 165 to 176 (fun r wx => r = .bool okb ∧ wx = wr)
      case first =>
       by_cases hz0 : 0 ≤ z0
       ·by_cases hz1 : z0 < (nx : Int)
        ·have HOK2 : Hid (okb = true) := Lib.hid (by rw [← HOKB.out]; unfold axP; rw [if_pos ⟨hz0, by rw [HNX.out]; exact hz1⟩, List.getElem?_eq_getElem (by rw [HNX.out]; omega)]; rfl)
         go_wp2
         go_meet
         case rel => exact ⟨by rw [HOK2.out], rfl⟩
        ·have HOK2 : Hid (okb = false) := Lib.hid (by rw [← HOKB.out]; unfold axP; rw [if_neg (fun h => hz1 (by rw [← HNX.out]; exact h.2))]; rfl)
         go_wp2
         go_meet
         case rel => exact ⟨by rw [HOK2.out], rfl⟩
       ·have HOK2 : Hid (okb = false) := Lib.hid (by rw [← HOKB.out]; unfold axP; rw [if_neg (fun h => hz0 h.1)]; rfl)
        go_wp2
        go_meet
        case rel => exact ⟨by rw [HOK2.out], rfl⟩
      case rest =>
       obtain ⟨rfl, rfl⟩ := hcut
       obtain ⟨O, hO⟩ : ∃ x, outsN b.kind = x := ⟨_, rfl⟩
       have HO := Lib.hid hO
       have HOU := Lib.hid (fun w => outs_any b.kind w)
       rw [hO] at HOU
       clear hO
       go_upto_region 32 with (refine wpList_store_new rfl 103 _ _ rfl wc _ axZ rfl rfl rfl ax_size rfl axZ_one ?_)
       refine wp_name fun W3 hW3 => ?_
       obtain ⟨D, hD⟩ : ∃ D, D = wc.heap.size := ⟨_, rfl⟩
       have hh : W3.heap[D]? = some (.cells axZ 103) := by rw [hW3.out, hD]; exact heap_alloc_new _ _
       have hb3 : Below wc.heap.size wc W3 := by rw [hW3.out]; (repeat' (first | with_reducible (first | exact Below.refl _ _ | assumption | refine below_drewN ?_ _ | refine Below.drew ?_ | refine below_new ?_ (Nat.le_refl _) _ | refine Below.setCell ?_ ?_ _ | refine below_go ?_ (by assumption) (Nat.le_refl _)) | (simp; done) | (simp; omega) | omega))
       have HTW3 := Lib.hid (HTK.out.below hb3)
       have hDg : D ≠ g := fun e => by have := HTK.out.row.lt; omega
       have HDq : Hid (D ≠ q) := Lib.hid (fun e => by have := HTK.out.ql HNE.out; omega)
       have HD0 : Hid (w.heap.size ≤ D) := Lib.hid (by have := HTK.out.old.size; omega)
       have HH3 := Lib.hid hh
       (try rw [← hD])
       (try simp only [Act.put])
       clear hW3 hD hh hb3 b1 b2 hql c0 lg
       cases hax : axP xs z0 with
       | some x =>
        have HAX := Lib.hid hax
        have hok1 : okb = true := by rw [← HOKB.out, hax]; rfl
        subst hok1
        have hz1 : 0 ≤ z0 ∧ z0 < xs.length := by
         unfold axP at hax
         by_cases hq : 0 ≤ z0 ∧ z0 < xs.length
         ·exact hq
         ·rw [if_neg hq] at hax; cases hax
        obtain ⟨k0, rfl⟩ : ∃ k0 : Nat, z0 = k0 := ⟨z0.toNat, by omega⟩
        have HXK : Hid (xs[k0]? = some x) := Lib.hid (by unfold axP at hax; rw [if_pos hz1] at hax; simpa using hax)
        rw [HNX.out] at hz1
        obtain ⟨bx, ox, x', hA, hbx, hx, hok, hrng⟩ := RowX.at (HX.out.below HTW3.out.old) (i := k0) (by rw [HNX.out]; omega)
        have HRX := Lib.hid hrng
        have HOX := Lib.hid hok
        have hxe : xs[k0]? = some x' := hx
        rw [HXK.out] at hxe
        cases hxe
        have HSZ1 : Hid ((Tryd.prog.info? 103).map (·.size) = some x.cells.length) := Lib.hid (by rw [HOX.out.len]; exact ax_size)
        have HSZ2 : Hid ((Tryd.prog.info? 103).map (·.size) = some x.cells.toArray.size) := Lib.hid (by rw [List.size_toArray, HOX.out.len]; exact ax_size)
        have HSZ3 : Hid (axZ.size = x.cells.toArray.size) := Lib.hid (by have := HOX.out.len; simp [axZ, this])
        have c0 : W3.cell? ⟨g, b.off, none⟩ = some (.int .i64 (k0 : Int)) := HTW3.out.row.cell _ _ HZ0.out
        have lg := HTW3.out.row.lt
        clear hx hok hrng hax
        subst hA
        go_upto_region 34 with (first | refine wpList_load_mid rfl 103 _ rfl bx (ox + k0 * 26) rfl x.cells _ HRX.out Tryd.underlying103 rfl HSZ1.out ?_ | refine wpList_store_row rfl 103 _ _ rfl D x.cells.toArray rfl rfl 103 _ HH3.out HSZ2.out HSZ3.out HOX.out.one ?_)
        refine wp_name fun W4 hW4 => ?_
        have hh4 : W4.heap[D]? = some (.cells x.cells.toArray 103) := by rw [hW4.out]; exact setRow_heap _ _ _ _ _ _ HH3.out
        have HA4 : Hid (AxV W4 D x.st x.vel x.ins) := Lib.hid ⟨heap_cell 0 _ hh4 (by rw [List.getElem?_toArray]; exact HOX.out.c0), heap_cell 11 _ hh4 (by rw [List.getElem?_toArray]; exact HOX.out.c11), heap_cell 25 _ hh4 (by rw [List.getElem?_toArray]; exact HOX.out.c25), (Array.getElem?_eq_some_iff.1 hh4).1⟩
        have HTW4 : Hid (RS w W4 g q n bl zK) := Lib.hid (by rw [hW4.out]; exact HTW3.out.setRow hDg HDq.out HD0.out _)
        clear hW4 hh4 c0 lg HH3 HTW3 HRX hbx
        have b1 : W4.cell? ⟨q, k * 3 + 1, none⟩ = some (.int .i64 b.kind) := HTW4.out.ins k b HBK.out 1 _ rfl
        have b2 : W4.cell? ⟨q, k * 3 + 2, none⟩ = some (.int .i64 (b.off : Int)) := HTW4.out.ins k b HBK.out 2 _ rfl
        have hql := HTW4.out.ql HNE.out
        go_wp2_with fail
        refine (HOU.out _).mono ?_
        rintro e w5 ⟨rfl, hb5⟩
        have HTw5 := Lib.hid (HTW4.out.below hb5)
        have HAw5 := Lib.hid (HA4.out.next (But.of_below hb5) hDg)
        clear b1 b2 hql hb5 HA4 HTW4
        have b1 : w5.cell? ⟨q, k * 3 + 1, none⟩ = some (.int .i64 b.kind) := HTw5.out.ins k b HBK.out 1 _ rfl
        have b2 : w5.cell? ⟨q, k * 3 + 2, none⟩ = some (.int .i64 (b.off : Int)) := HTw5.out.ins k b HBK.out 2 _ rfl
        have hql := HTw5.out.ql HNE.out
        obtain ⟨a0, a11, a25, lD⟩ := HAw5.out
        have lg := HTw5.out.row.lt
        by_cases hk20 : b.kind = 20
        ·as_aux_lemma =>
          have HKE := Lib.hid hk20
          rw [hk20] at b1
          clear hk20
          have hcnt := othK.c20
          have hbl2 := HBL2.out
          rw [HKE.out, hcnt] at hbl2
          have hzl := HTw5.out.len
          have hln := HLN.out
          have hi2 : (2 : Int) < (ln : Int) := by omega
          have hi3 : (3 : Int) < (ln : Int) := by omega
          obtain ⟨x2, hx2⟩ : ∃ x, zK[b.off + 2]? = some x := ⟨_, List.getElem?_eq_getElem (by omega)⟩
          have HX2 := Lib.hid hx2
          clear hx2
          obtain ⟨x3, hx3⟩ : ∃ x, zK[b.off + 3]? = some x := ⟨_, List.getElem?_eq_getElem (by omega)⟩
          have HX3 := Lib.hid hx3
          clear hx3
          clear hcnt hbl2 hzl hln
          obtain ⟨sv, hsv⟩ : ∃ q, x.st = q := ⟨_, rfl⟩
          have HSV := Lib.hid hsv
          rw [hsv] at a0 HAw5
          clear hsv
          by_cases h7 : sv = 7
          ·have H7 := Lib.hid h7
           subst h7
           have HEQ : Hid (looksP b.kind b.off (some x) zK = (zK.set (b.off + 2) 1).set (b.off + 3) 1) := Lib.hid (by rw [HKE.out]; unfold looksP; rw [if_pos rfl]; show (zK.set _ (b01 (true && decide (x.st ≠ 0)))).set _ (b01 (decide (x.st = 7))) = _; rw [HSV.out]; rfl)
           have HZN : Hid (lookP (bl.take (k + 1)) xs zR = (zK.set (b.off + 2) 1).set (b.off + 3) 1) := Lib.hid (by
            unfold lookP
            rw [fold_take _ zR HBK.out]
            have := HZK.out
            unfold lookP at this
            rw [this]
            unfold look1
            rw [HZ0.out, Option.getD_some, HAX.out, HEQ.out])
           go_upto_region 37 with (fail)
           have HSB : Hid (∀ W', But g w5 W' → W'.cell? ⟨D, 0, none⟩ = some (.int .i64 7) ∧ D < W'.heap.size) := Lib.hid (fun W' h => ⟨(h.cell D 0 HAw5.out.lt hDg).trans HAw5.out.c0, Nat.lt_of_lt_of_le HAw5.out.lt h.size⟩)
           have y2 : w5.cell? ⟨g, b.off + 2, none⟩ = some (.int .i64 x2) := HTw5.out.row.cell _ _ HX2.out
           have f2 := HTw5.out.row.free (b.off + 2)
           have y3 : w5.cell? ⟨g, b.off + 3, none⟩ = some (.int .i64 x3) := HTw5.out.row.cell _ _ HX3.out
           have f3 := HTw5.out.row.free (b.off + 3)
           refine wp_region_held_drew (S := fun W' => W'.cell? ⟨D, 0, none⟩ = some (.int .i64 7) ∧ D < W'.heap.size) (by kernel_rfl) (HSB.out _ ((But.refl g w5).drew)) (fun hHeld => ?_)
           (try simp only [Act.put, List.setIfInBounds_toArray, List.set_cons_zero, List.set_cons_succ])
           (refine takeH (i := 0) (v := ?_) rfl (by kernel_rfl) (by kernel_rfl) (by kernel_rfl) (fun _ _ _ h => h) (Or.inl ⟨by first | kernel_rfl | rfl, ?_⟩) (by assumption) ?_; rotate_left; (focus (intro w' hSw; (try dsimp only at hSw); go_simp; try (with_reducible rfl))); (try simp only [Act.put, List.setIfInBounds_toArray, List.set_cons_zero, List.set_cons_succ]))
           (refine takeH (i := 1) (v := ?_) rfl (by kernel_rfl) (by kernel_rfl) (by kernel_rfl) (fun _ _ _ h => h) (Or.inl ⟨by first | kernel_rfl | rfl, ?_⟩) (by assumption) ?_; rotate_left; (focus (intro w' hSw; (try dsimp only at hSw); go_simp; try (with_reducible rfl))); (try simp only [Act.put, List.setIfInBounds_toArray, List.set_cons_zero, List.set_cons_succ]))
           (refine takeH (i := 2) (v := ?_) rfl (by kernel_rfl) (by kernel_rfl) (by kernel_rfl) (fun _ _ _ h => h) (Or.inl ⟨by first | kernel_rfl | rfl, ?_⟩) (by assumption) ?_; rotate_left; (focus (intro w' hSw; (try dsimp only at hSw); go_simp; try (with_reducible rfl))); (try simp only [Act.put, List.setIfInBounds_toArray, List.set_cons_zero, List.set_cons_succ]))
           (refine takeH (i := 3) (v := ?_) rfl (by kernel_rfl) (by kernel_rfl) (by kernel_rfl) (fun _ _ _ h => h) (Or.inl ⟨by first | kernel_rfl | rfl, ?_⟩) (by assumption) ?_; rotate_left; (focus (intro w' hSw; (try dsimp only at hSw); go_simp; try (with_reducible rfl))); (try simp only [Act.put, List.setIfInBounds_toArray, List.set_cons_zero, List.set_cons_succ]))
           (refine takeH (i := 4) (v := ?_) rfl (by kernel_rfl) (by kernel_rfl) (by kernel_rfl) (fun _ _ _ h => h) (Or.inl ⟨by first | kernel_rfl | rfl, ?_⟩) (by assumption) ?_; rotate_left; (focus (intro w' hSw; (try dsimp only at hSw); go_simp; try (with_reducible rfl))); (try simp only [Act.put, List.setIfInBounds_toArray, List.set_cons_zero, List.set_cons_succ]))
           (refine takeH (i := 5) (v := ?_) rfl (by kernel_rfl) (by kernel_rfl) (by kernel_rfl) (fun _ _ _ h => h) (Or.inl ⟨by first | kernel_rfl | rfl, ?_⟩) (by assumption) ?_; rotate_left; (focus (intro w' hSw; (try dsimp only at hSw); go_simp; try (with_reducible rfl))); (try simp only [Act.put, List.setIfInBounds_toArray, List.set_cons_zero, List.set_cons_succ]))
           (refine takeH (i := 6) (v := ?_) rfl (by kernel_rfl) (by kernel_rfl) (by kernel_rfl) (fun _ _ _ h => h) (Or.inl ⟨by first | kernel_rfl | rfl, ?_⟩) (by assumption) ?_; rotate_left; (focus (intro w' hSw; (try dsimp only at hSw); go_simp; try (with_reducible rfl))); (try simp only [Act.put, List.setIfInBounds_toArray, List.set_cons_zero, List.set_cons_succ]))
           (refine takeH (i := 7) (v := ?_) rfl (by kernel_rfl) (by kernel_rfl) (by kernel_rfl) (fun _ _ _ h => h) (Or.inl ⟨by first | kernel_rfl | rfl, ?_⟩) (by assumption) ?_; rotate_left; (focus (intro w' hSw; (try dsimp only at hSw); go_simp; try (with_reducible rfl))); (try simp only [Act.put, List.setIfInBounds_toArray, List.set_cons_zero, List.set_cons_succ]))
           (refine takeH (i := 9) (v := ?_) rfl (by kernel_rfl) (by kernel_rfl) (by kernel_rfl) (fun _ _ _ h => h) (Or.inl ⟨by first | kernel_rfl | rfl, ?_⟩) (by assumption) ?_; rotate_left; (focus (intro w' hSw; (try dsimp only at hSw); go_simp; try (with_reducible rfl))); (try simp only [Act.put, List.setIfInBounds_toArray, List.set_cons_zero, List.set_cons_succ]))
           (refine takeH (i := 10) (v := ?_) rfl (by kernel_rfl) (by kernel_rfl) (by kernel_rfl) (fun _ _ _ h => h) (Or.inl ⟨by first | kernel_rfl | rfl, ?_⟩) (by assumption) ?_; rotate_left; (focus (intro w' hSw; (try dsimp only at hSw); go_simp; try (with_reducible rfl))); (try simp only [Act.put, List.setIfInBounds_toArray, List.set_cons_zero, List.set_cons_succ]))
           (refine takeH (i := 11) (v := ?_) rfl (by kernel_rfl) (by kernel_rfl) (by kernel_rfl) (fun _ _ _ h => h) (Or.inl ⟨by first | kernel_rfl | rfl, ?_⟩) (by assumption) ?_; rotate_left; (focus (intro w' hSw; (try dsimp only at hSw); go_simp; try (with_reducible rfl))); (try simp only [Act.put, List.setIfInBounds_toArray, List.set_cons_zero, List.set_cons_succ]))
           refine oneH (i := 8) (by kernel_rfl) rfl (fun K hK => ?_)
           go_simp
           go_at_call 46
           refine (rnum_any true _).mono ?_
           rintro e w' ⟨rfl, rfl⟩
           go_wp2_with fail
           refine hK.out _ _ (HSB.out _ ((But.refl g w5).drew)) (fun hHeld => ?_)
           clear hK K
           (try simp only [Act.put, List.setIfInBounds_toArray, List.set_cons_zero, List.set_cons_succ])
           refine oneH (i := 12) (by kernel_rfl) rfl (fun K hK => ?_)
           go_simp
           go_at_call 46
           refine (rnum_any true _).mono ?_
           rintro e w' ⟨rfl, rfl⟩
           go_wp2_with fail
           refine hK.out _ _ (HSB.out _ ((But.refl g w5).drew)) (fun hHeld => ?_)
           clear hK K
           (try simp only [Act.put, List.setIfInBounds_toArray, List.set_cons_zero, List.set_cons_succ])
           (refine takeH (i := 13) (v := ?_) rfl (by kernel_rfl) (by kernel_rfl) (by kernel_rfl) (fun _ _ _ h => h) (Or.inl ⟨by first | kernel_rfl | rfl, ?_⟩) (by assumption) ?_; rotate_left; (focus (intro w' hSw; (try dsimp only at hSw); go_simp; try (with_reducible rfl))); (try simp only [Act.put, List.setIfInBounds_toArray, List.set_cons_zero, List.set_cons_succ]))
           refine oneH (i := 14) (by kernel_rfl) rfl (fun K hK => ?_)
           go_simp
           refine hK.out _ _ (HSB.out _ (((But.refl g w5).drew).set _ _)) (fun hHeld => ?_)
           clear hK K
           (try simp only [Act.put, List.setIfInBounds_toArray, List.set_cons_zero, List.set_cons_succ])
           (refine takeH (i := 15) (v := ?_) rfl (by kernel_rfl) (by kernel_rfl) (by kernel_rfl) (fun _ _ _ h => h) (Or.inl ⟨by first | kernel_rfl | rfl, ?_⟩) (by assumption) ?_; rotate_left; (focus (intro w' hSw; (try dsimp only at hSw); go_simp; try (with_reducible rfl))); (try simp only [Act.put, List.setIfInBounds_toArray, List.set_cons_zero, List.set_cons_succ]))
           refine oneH (i := 16) (by kernel_rfl) rfl (fun K hK => ?_)
           go_simp
           refine hK.out _ _ (HSB.out _ ((((But.refl g w5).drew).set _ _).set _ _)) (fun hHeld => ?_)
           clear hK K
           (try simp only [Act.put, List.setIfInBounds_toArray, List.set_cons_zero, List.set_cons_succ])
           refine wpAnyH_done (by kernel_rfl) ?_ _
           (try simp only [Act.put, List.setIfInBounds_toArray, List.set_cons_zero, List.set_cons_succ])
           go_upto_region 28 with (fail)
           refine wp_name fun W8 hW8 => ?_
           have HT8 : Hid (RS w W8 g q n bl ((zK.set (b.off + 2) 1).set (b.off + 3) 1)) := Lib.hid (by rw [hW8.out]; exact (((HTw5.out.below (show Below w5.heap.size w5 w5.drew by (repeat' (first | with_reducible (first | exact Below.refl _ _ | assumption | refine below_drewN ?_ _ | refine Below.drew ?_ | refine below_new ?_ (Nat.le_refl _) _ | refine Below.setCell ?_ ?_ _ | refine below_go ?_ (by assumption) (Nat.le_refl _)) | (simp; done) | (simp; omega) | omega)))).put (b.off + 2) _).put (b.off + 3) _))
           clear hW8 y2 f2 y3 f3 b1 b2 hql a0 a11 a25 lD lg
           go_wp2
           go_roundw
           case rel => exact ⟨k + 1, by omega, by go_num, Lib.hid (by rw [HZN.out]; exact HT8.out)⟩
           case measure => simp [intOf]; omega
          ·by_cases h0 : sv = 0
           ·have H0 := Lib.hid h0
            subst h0
            clear h7
            have HEQ : Hid (looksP b.kind b.off (some x) zK = (zK.set (b.off + 2) 0).set (b.off + 3) 0) := Lib.hid (by rw [HKE.out]; unfold looksP; rw [if_pos rfl]; show (zK.set _ (b01 (true && decide (x.st ≠ 0)))).set _ (b01 (decide (x.st = 7))) = _; rw [HSV.out]; rfl)
            have HZN : Hid (lookP (bl.take (k + 1)) xs zR = (zK.set (b.off + 2) 0).set (b.off + 3) 0) := Lib.hid (by
             unfold lookP
             rw [fold_take _ zR HBK.out]
             have := HZK.out
             unfold lookP at this
             rw [this]
             unfold look1
             rw [HZ0.out, Option.getD_some, HAX.out, HEQ.out])
            go_upto_region 37 with (fail)
            have HSB : Hid (∀ W', But g w5 W' → W'.cell? ⟨D, 0, none⟩ = some (.int .i64 0) ∧ D < W'.heap.size) := Lib.hid (fun W' h => ⟨(h.cell D 0 HAw5.out.lt hDg).trans HAw5.out.c0, Nat.lt_of_lt_of_le HAw5.out.lt h.size⟩)
            have y2 : w5.cell? ⟨g, b.off + 2, none⟩ = some (.int .i64 x2) := HTw5.out.row.cell _ _ HX2.out
            have f2 := HTw5.out.row.free (b.off + 2)
            have y3 : w5.cell? ⟨g, b.off + 3, none⟩ = some (.int .i64 x3) := HTw5.out.row.cell _ _ HX3.out
            have f3 := HTw5.out.row.free (b.off + 3)
            refine wp_region_held_drew (S := fun W' => W'.cell? ⟨D, 0, none⟩ = some (.int .i64 0) ∧ D < W'.heap.size) (by kernel_rfl) (HSB.out _ ((But.refl g w5).drew)) (fun hHeld => ?_)
            (try simp only [Act.put, List.setIfInBounds_toArray, List.set_cons_zero, List.set_cons_succ])
            (refine takeH (i := 0) (v := ?_) rfl (by kernel_rfl) (by kernel_rfl) (by kernel_rfl) (fun _ _ _ h => h) (Or.inl ⟨by first | kernel_rfl | rfl, ?_⟩) (by assumption) ?_; rotate_left; (focus (intro w' hSw; (try dsimp only at hSw); go_simp; try (with_reducible rfl))); (try simp only [Act.put, List.setIfInBounds_toArray, List.set_cons_zero, List.set_cons_succ]))
            (refine takeH (i := 1) (v := ?_) rfl (by kernel_rfl) (by kernel_rfl) (by kernel_rfl) (fun _ _ _ h => h) (Or.inl ⟨by first | kernel_rfl | rfl, ?_⟩) (by assumption) ?_; rotate_left; (focus (intro w' hSw; (try dsimp only at hSw); go_simp; try (with_reducible rfl))); (try simp only [Act.put, List.setIfInBounds_toArray, List.set_cons_zero, List.set_cons_succ]))
            (refine takeH (i := 2) (v := ?_) rfl (by kernel_rfl) (by kernel_rfl) (by kernel_rfl) (fun _ _ _ h => h) (Or.inl ⟨by first | kernel_rfl | rfl, ?_⟩) (by assumption) ?_; rotate_left; (focus (intro w' hSw; (try dsimp only at hSw); go_simp; try (with_reducible rfl))); (try simp only [Act.put, List.setIfInBounds_toArray, List.set_cons_zero, List.set_cons_succ]))
            (refine takeH (i := 3) (v := ?_) rfl (by kernel_rfl) (by kernel_rfl) (by kernel_rfl) (fun _ _ _ h => h) (Or.inl ⟨by first | kernel_rfl | rfl, ?_⟩) (by assumption) ?_; rotate_left; (focus (intro w' hSw; (try dsimp only at hSw); go_simp; try (with_reducible rfl))); (try simp only [Act.put, List.setIfInBounds_toArray, List.set_cons_zero, List.set_cons_succ]))
            (refine takeH (i := 4) (v := ?_) rfl (by kernel_rfl) (by kernel_rfl) (by kernel_rfl) (fun _ _ _ h => h) (Or.inl ⟨by first | kernel_rfl | rfl, ?_⟩) (by assumption) ?_; rotate_left; (focus (intro w' hSw; (try dsimp only at hSw); go_simp; try (with_reducible rfl))); (try simp only [Act.put, List.setIfInBounds_toArray, List.set_cons_zero, List.set_cons_succ]))
            (refine takeH (i := 5) (v := ?_) rfl (by kernel_rfl) (by kernel_rfl) (by kernel_rfl) (fun _ _ _ h => h) (Or.inl ⟨by first | kernel_rfl | rfl, ?_⟩) (by assumption) ?_; rotate_left; (focus (intro w' hSw; (try dsimp only at hSw); go_simp; try (with_reducible rfl))); (try simp only [Act.put, List.setIfInBounds_toArray, List.set_cons_zero, List.set_cons_succ]))
            (refine takeH (i := 6) (v := ?_) rfl (by kernel_rfl) (by kernel_rfl) (by kernel_rfl) (fun _ _ _ h => h) (Or.inl ⟨by first | kernel_rfl | rfl, ?_⟩) (by assumption) ?_; rotate_left; (focus (intro w' hSw; (try dsimp only at hSw); go_simp; try (with_reducible rfl))); (try simp only [Act.put, List.setIfInBounds_toArray, List.set_cons_zero, List.set_cons_succ]))
            (refine takeH (i := 7) (v := ?_) rfl (by kernel_rfl) (by kernel_rfl) (by kernel_rfl) (fun _ _ _ h => h) (Or.inl ⟨by first | kernel_rfl | rfl, ?_⟩) (by assumption) ?_; rotate_left; (focus (intro w' hSw; (try dsimp only at hSw); go_simp; try (with_reducible rfl))); (try simp only [Act.put, List.setIfInBounds_toArray, List.set_cons_zero, List.set_cons_succ]))
            (refine takeH (i := 9) (v := ?_) rfl (by kernel_rfl) (by kernel_rfl) (by kernel_rfl) (fun _ _ _ h => h) (Or.inl ⟨by first | kernel_rfl | rfl, ?_⟩) (by assumption) ?_; rotate_left; (focus (intro w' hSw; (try dsimp only at hSw); go_simp; try (with_reducible rfl))); (try simp only [Act.put, List.setIfInBounds_toArray, List.set_cons_zero, List.set_cons_succ]))
            (refine takeH (i := 10) (v := ?_) rfl (by kernel_rfl) (by kernel_rfl) (by kernel_rfl) (fun _ _ _ h => h) (Or.inl ⟨by first | kernel_rfl | rfl, ?_⟩) (by assumption) ?_; rotate_left; (focus (intro w' hSw; (try dsimp only at hSw); go_simp; try (with_reducible rfl))); (try simp only [Act.put, List.setIfInBounds_toArray, List.set_cons_zero, List.set_cons_succ]))
            (refine takeH (i := 11) (v := ?_) rfl (by kernel_rfl) (by kernel_rfl) (by kernel_rfl) (fun _ _ _ h => h) (Or.inl ⟨by first | kernel_rfl | rfl, ?_⟩) (by assumption) ?_; rotate_left; (focus (intro w' hSw; (try dsimp only at hSw); go_simp; try (with_reducible rfl))); (try simp only [Act.put, List.setIfInBounds_toArray, List.set_cons_zero, List.set_cons_succ]))
            refine oneH (i := 8) (by kernel_rfl) rfl (fun K hK => ?_)
            go_simp
            go_at_call 46
            refine (rnum_any false _).mono ?_
            rintro e w' ⟨rfl, rfl⟩
            go_wp2_with fail
            refine hK.out _ _ (HSB.out _ ((But.refl g w5).drew)) (fun hHeld => ?_)
            clear hK K
            (try simp only [Act.put, List.setIfInBounds_toArray, List.set_cons_zero, List.set_cons_succ])
            refine oneH (i := 12) (by kernel_rfl) rfl (fun K hK => ?_)
            go_simp
            go_at_call 46
            refine (rnum_any false _).mono ?_
            rintro e w' ⟨rfl, rfl⟩
            go_wp2_with fail
            refine hK.out _ _ (HSB.out _ ((But.refl g w5).drew)) (fun hHeld => ?_)
            clear hK K
            (try simp only [Act.put, List.setIfInBounds_toArray, List.set_cons_zero, List.set_cons_succ])
            (refine takeH (i := 13) (v := ?_) rfl (by kernel_rfl) (by kernel_rfl) (by kernel_rfl) (fun _ _ _ h => h) (Or.inl ⟨by first | kernel_rfl | rfl, ?_⟩) (by assumption) ?_; rotate_left; (focus (intro w' hSw; (try dsimp only at hSw); go_simp; try (with_reducible rfl))); (try simp only [Act.put, List.setIfInBounds_toArray, List.set_cons_zero, List.set_cons_succ]))
            refine oneH (i := 14) (by kernel_rfl) rfl (fun K hK => ?_)
            go_simp
            refine hK.out _ _ (HSB.out _ (((But.refl g w5).drew).set _ _)) (fun hHeld => ?_)
            clear hK K
            (try simp only [Act.put, List.setIfInBounds_toArray, List.set_cons_zero, List.set_cons_succ])
            (refine takeH (i := 15) (v := ?_) rfl (by kernel_rfl) (by kernel_rfl) (by kernel_rfl) (fun _ _ _ h => h) (Or.inl ⟨by first | kernel_rfl | rfl, ?_⟩) (by assumption) ?_; rotate_left; (focus (intro w' hSw; (try dsimp only at hSw); go_simp; try (with_reducible rfl))); (try simp only [Act.put, List.setIfInBounds_toArray, List.set_cons_zero, List.set_cons_succ]))
            refine oneH (i := 16) (by kernel_rfl) rfl (fun K hK => ?_)
            go_simp
            refine hK.out _ _ (HSB.out _ ((((But.refl g w5).drew).set _ _).set _ _)) (fun hHeld => ?_)
            clear hK K
            (try simp only [Act.put, List.setIfInBounds_toArray, List.set_cons_zero, List.set_cons_succ])
            refine wpAnyH_done (by kernel_rfl) ?_ _
            (try simp only [Act.put, List.setIfInBounds_toArray, List.set_cons_zero, List.set_cons_succ])
            go_upto_region 28 with (fail)
            refine wp_name fun W8 hW8 => ?_
            have HT8 : Hid (RS w W8 g q n bl ((zK.set (b.off + 2) 0).set (b.off + 3) 0)) := Lib.hid (by rw [hW8.out]; exact (((HTw5.out.below (show Below w5.heap.size w5 w5.drew by (repeat' (first | with_reducible (first | exact Below.refl _ _ | assumption | refine below_drewN ?_ _ | refine Below.drew ?_ | refine below_new ?_ (Nat.le_refl _) _ | refine Below.setCell ?_ ?_ _ | refine below_go ?_ (by assumption) (Nat.le_refl _)) | (simp; done) | (simp; omega) | omega)))).put (b.off + 2) _).put (b.off + 3) _))
            clear hW8 y2 f2 y3 f3 b1 b2 hql a0 a11 a25 lD lg
            go_wp2
            go_roundw
            case rel => exact ⟨k + 1, by omega, by go_num, Lib.hid (by rw [HZN.out]; exact HT8.out)⟩
            case measure => simp [intOf]; omega
           ·have H7 := Lib.hid h7
            have H0 := Lib.hid h0
            have u7 : (sv == 7) = false := by simp [h7]
            have u0 : (sv != 0) = true := by simp [h0]
            clear h7 h0
            have HEQ : Hid (looksP b.kind b.off (some x) zK = (zK.set (b.off + 2) 1).set (b.off + 3) 0) := Lib.hid (by rw [HKE.out]; unfold looksP; rw [if_pos rfl]; show (zK.set _ (b01 (true && decide (x.st ≠ 0)))).set _ (b01 (decide (x.st = 7))) = _; rw [HSV.out, decide_eq_true H0.out, decide_eq_false H7.out]; rfl)
            have HZN : Hid (lookP (bl.take (k + 1)) xs zR = (zK.set (b.off + 2) 1).set (b.off + 3) 0) := Lib.hid (by
             unfold lookP
             rw [fold_take _ zR HBK.out]
             have := HZK.out
             unfold lookP at this
             rw [this]
             unfold look1
             rw [HZ0.out, Option.getD_some, HAX.out, HEQ.out])
            go_upto_region 37 with (fail)
            have HSB : Hid (∀ W', But g w5 W' → W'.cell? ⟨D, 0, none⟩ = some (.int .i64 sv) ∧ D < W'.heap.size) := Lib.hid (fun W' h => ⟨(h.cell D 0 HAw5.out.lt hDg).trans HAw5.out.c0, Nat.lt_of_lt_of_le HAw5.out.lt h.size⟩)
            have y2 : w5.cell? ⟨g, b.off + 2, none⟩ = some (.int .i64 x2) := HTw5.out.row.cell _ _ HX2.out
            have f2 := HTw5.out.row.free (b.off + 2)
            have y3 : w5.cell? ⟨g, b.off + 3, none⟩ = some (.int .i64 x3) := HTw5.out.row.cell _ _ HX3.out
            have f3 := HTw5.out.row.free (b.off + 3)
            refine wp_region_held_drew (S := fun W' => W'.cell? ⟨D, 0, none⟩ = some (.int .i64 sv) ∧ D < W'.heap.size) (by kernel_rfl) (HSB.out _ ((But.refl g w5).drew)) (fun hHeld => ?_)
            (try simp only [Act.put, List.setIfInBounds_toArray, List.set_cons_zero, List.set_cons_succ])
            (refine takeH (i := 0) (v := ?_) rfl (by kernel_rfl) (by kernel_rfl) (by kernel_rfl) (fun _ _ _ h => h) (Or.inl ⟨by first | kernel_rfl | rfl, ?_⟩) (by assumption) ?_; rotate_left; (focus (intro w' hSw; (try dsimp only at hSw); go_simp; try (with_reducible rfl))); (try simp only [Act.put, List.setIfInBounds_toArray, List.set_cons_zero, List.set_cons_succ]))
            (refine takeH (i := 1) (v := ?_) rfl (by kernel_rfl) (by kernel_rfl) (by kernel_rfl) (fun _ _ _ h => h) (Or.inl ⟨by first | kernel_rfl | rfl, ?_⟩) (by assumption) ?_; rotate_left; (focus (intro w' hSw; (try dsimp only at hSw); go_simp; try (with_reducible rfl))); (try simp only [Act.put, List.setIfInBounds_toArray, List.set_cons_zero, List.set_cons_succ]))
            (refine takeH (i := 2) (v := ?_) rfl (by kernel_rfl) (by kernel_rfl) (by kernel_rfl) (fun _ _ _ h => h) (Or.inl ⟨by first | kernel_rfl | rfl, ?_⟩) (by assumption) ?_; rotate_left; (focus (intro w' hSw; (try dsimp only at hSw); go_simp; try (with_reducible rfl))); (try simp only [Act.put, List.setIfInBounds_toArray, List.set_cons_zero, List.set_cons_succ]))
            (refine takeH (i := 3) (v := ?_) rfl (by kernel_rfl) (by kernel_rfl) (by kernel_rfl) (fun _ _ _ h => h) (Or.inl ⟨by first | kernel_rfl | rfl, ?_⟩) (by assumption) ?_; rotate_left; (focus (intro w' hSw; (try dsimp only at hSw); go_simp; try (with_reducible rfl))); (try simp only [Act.put, List.setIfInBounds_toArray, List.set_cons_zero, List.set_cons_succ]))
            (refine takeH (i := 4) (v := ?_) rfl (by kernel_rfl) (by kernel_rfl) (by kernel_rfl) (fun _ _ _ h => h) (Or.inl ⟨by first | kernel_rfl | rfl, ?_⟩) (by assumption) ?_; rotate_left; (focus (intro w' hSw; (try dsimp only at hSw); go_simp; try (with_reducible rfl))); (try simp only [Act.put, List.setIfInBounds_toArray, List.set_cons_zero, List.set_cons_succ]))
            (refine takeH (i := 5) (v := ?_) rfl (by kernel_rfl) (by kernel_rfl) (by kernel_rfl) (fun _ _ _ h => h) (Or.inl ⟨by first | kernel_rfl | rfl, ?_⟩) (by assumption) ?_; rotate_left; (focus (intro w' hSw; (try dsimp only at hSw); go_simp; try (with_reducible rfl))); (try simp only [Act.put, List.setIfInBounds_toArray, List.set_cons_zero, List.set_cons_succ]))
            (refine takeH (i := 6) (v := ?_) rfl (by kernel_rfl) (by kernel_rfl) (by kernel_rfl) (fun _ _ _ h => h) (Or.inl ⟨by first | kernel_rfl | rfl, ?_⟩) (by assumption) ?_; rotate_left; (focus (intro w' hSw; (try dsimp only at hSw); go_simp; try (with_reducible rfl))); (try simp only [Act.put, List.setIfInBounds_toArray, List.set_cons_zero, List.set_cons_succ]))
            (refine takeH (i := 7) (v := ?_) rfl (by kernel_rfl) (by kernel_rfl) (by kernel_rfl) (fun _ _ _ h => h) (Or.inl ⟨by first | kernel_rfl | rfl, ?_⟩) (by assumption) ?_; rotate_left; (focus (intro w' hSw; (try dsimp only at hSw); go_simp; try (with_reducible rfl))); (try simp only [Act.put, List.setIfInBounds_toArray, List.set_cons_zero, List.set_cons_succ]))
            (refine takeH (i := 9) (v := ?_) rfl (by kernel_rfl) (by kernel_rfl) (by kernel_rfl) (fun _ _ _ h => h) (Or.inl ⟨by first | kernel_rfl | rfl, ?_⟩) (by assumption) ?_; rotate_left; (focus (intro w' hSw; (try dsimp only at hSw); go_simp; try (with_reducible rfl))); (try simp only [Act.put, List.setIfInBounds_toArray, List.set_cons_zero, List.set_cons_succ]))
            (refine takeH (i := 10) (v := ?_) rfl (by kernel_rfl) (by kernel_rfl) (by kernel_rfl) (fun _ _ _ h => h) (Or.inl ⟨by first | kernel_rfl | rfl, ?_⟩) (by assumption) ?_; rotate_left; (focus (intro w' hSw; (try dsimp only at hSw); go_simp; try (with_reducible rfl))); (try simp only [Act.put, List.setIfInBounds_toArray, List.set_cons_zero, List.set_cons_succ]))
            (refine takeH (i := 11) (v := ?_) rfl (by kernel_rfl) (by kernel_rfl) (by kernel_rfl) (fun _ _ _ h => h) (Or.inl ⟨by first | kernel_rfl | rfl, ?_⟩) (by assumption) ?_; rotate_left; (focus (intro w' hSw; (try dsimp only at hSw); go_simp; try (with_reducible rfl))); (try simp only [Act.put, List.setIfInBounds_toArray, List.set_cons_zero, List.set_cons_succ]))
            refine oneH (i := 8) (by kernel_rfl) rfl (fun K hK => ?_)
            go_simp
            go_at_call 46
            refine (rnum_any true _).mono ?_
            rintro e w' ⟨rfl, rfl⟩
            go_wp2_with fail
            refine hK.out _ _ (HSB.out _ ((But.refl g w5).drew)) (fun hHeld => ?_)
            clear hK K
            (try simp only [Act.put, List.setIfInBounds_toArray, List.set_cons_zero, List.set_cons_succ])
            refine oneH (i := 12) (by kernel_rfl) rfl (fun K hK => ?_)
            go_simp
            go_at_call 46
            refine (rnum_any false _).mono ?_
            rintro e w' ⟨rfl, rfl⟩
            go_wp2_with fail
            refine hK.out _ _ (HSB.out _ ((But.refl g w5).drew)) (fun hHeld => ?_)
            clear hK K
            (try simp only [Act.put, List.setIfInBounds_toArray, List.set_cons_zero, List.set_cons_succ])
            (refine takeH (i := 13) (v := ?_) rfl (by kernel_rfl) (by kernel_rfl) (by kernel_rfl) (fun _ _ _ h => h) (Or.inl ⟨by first | kernel_rfl | rfl, ?_⟩) (by assumption) ?_; rotate_left; (focus (intro w' hSw; (try dsimp only at hSw); go_simp; try (with_reducible rfl))); (try simp only [Act.put, List.setIfInBounds_toArray, List.set_cons_zero, List.set_cons_succ]))
            refine oneH (i := 14) (by kernel_rfl) rfl (fun K hK => ?_)
            go_simp
            refine hK.out _ _ (HSB.out _ (((But.refl g w5).drew).set _ _)) (fun hHeld => ?_)
            clear hK K
            (try simp only [Act.put, List.setIfInBounds_toArray, List.set_cons_zero, List.set_cons_succ])
            (refine takeH (i := 15) (v := ?_) rfl (by kernel_rfl) (by kernel_rfl) (by kernel_rfl) (fun _ _ _ h => h) (Or.inl ⟨by first | kernel_rfl | rfl, ?_⟩) (by assumption) ?_; rotate_left; (focus (intro w' hSw; (try dsimp only at hSw); go_simp; try (with_reducible rfl))); (try simp only [Act.put, List.setIfInBounds_toArray, List.set_cons_zero, List.set_cons_succ]))
            refine oneH (i := 16) (by kernel_rfl) rfl (fun K hK => ?_)
            go_simp
            refine hK.out _ _ (HSB.out _ ((((But.refl g w5).drew).set _ _).set _ _)) (fun hHeld => ?_)
            clear hK K
            (try simp only [Act.put, List.setIfInBounds_toArray, List.set_cons_zero, List.set_cons_succ])
            refine wpAnyH_done (by kernel_rfl) ?_ _
            (try simp only [Act.put, List.setIfInBounds_toArray, List.set_cons_zero, List.set_cons_succ])
            go_upto_region 28 with (fail)
            refine wp_name fun W8 hW8 => ?_
            have HT8 : Hid (RS w W8 g q n bl ((zK.set (b.off + 2) 1).set (b.off + 3) 0)) := Lib.hid (by rw [hW8.out]; exact (((HTw5.out.below (show Below w5.heap.size w5 w5.drew by (repeat' (first | with_reducible (first | exact Below.refl _ _ | assumption | refine below_drewN ?_ _ | refine Below.drew ?_ | refine below_new ?_ (Nat.le_refl _) _ | refine Below.setCell ?_ ?_ _ | refine below_go ?_ (by assumption) (Nat.le_refl _)) | (simp; done) | (simp; omega) | omega)))).put (b.off + 2) _).put (b.off + 3) _))
            clear hW8 y2 f2 y3 f3 b1 b2 hql a0 a11 a25 lD lg
            go_wp2
            go_roundw
            case rel => exact ⟨k + 1, by omega, by go_num, Lib.hid (by rw [HZN.out]; exact HT8.out)⟩
            case measure => simp [intOf]; omega
        ·have HN20 := Lib.hid hk20
         clear hk20
         by_cases hk27 : b.kind = 27
         ·as_aux_lemma =>
           have HKE := Lib.hid hk27
           rw [hk27] at b1
           clear hk27
           have hcnt := (cmdK (kind := 27) (by omega)).cnt
           have htwo := (cmdK (kind := 27) (by omega)).two
           have hbl2 := HBL2.out
           have hOK := HO.out
           rw [HKE.out] at hbl2 hOK
           rw [hcnt, hOK] at hbl2
           rw [hOK] at htwo
           have HOK27 := Lib.hid hOK
           have hzl := HTw5.out.len
           have hln := HLN.out
           obtain ⟨O2, hO2⟩ : ∃ x, x = O + 2 := ⟨_, rfl⟩
           have hw2 : IntKind.i64.wrap ((O : Int) + 2) = (O2 : Int) := by rw [IntKind.wrap_i64]; omega
           have hi2 : (2 : Int) < (ln : Int) := by omega
           have hiO : (0 : Int) ≤ (O : Int) ∧ (O : Int) < (ln : Int) := by omega
           have hiO2 : (0 : Int) ≤ (O2 : Int) ∧ (O2 : Int) < (ln : Int) := by omega
           have HO2E := Lib.hid hO2
           obtain ⟨xo, hxo⟩ : ∃ x, zK[b.off + O]? = some x := ⟨_, List.getElem?_eq_getElem (by omega)⟩
           have HXo := Lib.hid hxo
           clear hxo
           obtain ⟨xa, hxa⟩ : ∃ x, zK[b.off + O2]? = some x := ⟨_, List.getElem?_eq_getElem (by omega)⟩
           have HXa := Lib.hid hxa
           clear hxa
           obtain ⟨xv, hxv⟩ : ∃ x, zK[b.off + 2]? = some x := ⟨_, List.getElem?_eq_getElem (by omega)⟩
           have HXv := Lib.hid hxv
           clear hxv
           clear hcnt htwo hbl2 hOK hzl hO2 hln
           by_cases hza : xa = 0
           ·have HZA := Lib.hid hza
            have ua : (xa != 0) = false := by simp [hza]
            clear hza
            have HEQ : Hid (looksP b.kind b.off (some x) zK = zK.set (b.off + O) 0) := Lib.hid (by
             rw [HKE.out]
             unfold looksP
             rw [if_neg (by decide), if_pos rfl, HOK27.out]
             show zK.set _ (b01 (decide (zK[b.off + (O + 2)]?.getD 0 ≠ 0) && decide (x.vel = zK[b.off + 2]?.getD 0))) = _; rw [(show zK[b.off + (O + 2)]?.getD 0 = xa by rw [show O + 2 = O2 from HO2E.out.symm, HXa.out]; rfl), (show zK[b.off + 2]?.getD 0 = xv by rw [HXv.out]; rfl)]; rw [HZA.out]; rfl)
            have HZN : Hid (lookP (bl.take (k + 1)) xs zR = zK.set (b.off + O) 0) := Lib.hid (by
             unfold lookP
             rw [fold_take _ zR HBK.out]
             have := HZK.out
             unfold lookP at this
             rw [this]
             unfold look1
             rw [HZ0.out, Option.getD_some, HAX.out, HEQ.out])
            go_upto_region 39 with (fail)
            have yo : w5.cell? ⟨g, b.off + O, none⟩ = some (.int .i64 xo) := HTw5.out.row.cell _ _ HXo.out
            have fo := HTw5.out.row.free (b.off + O)
            have ya : w5.cell? ⟨g, b.off + O2, none⟩ = some (.int .i64 xa) := HTw5.out.row.cell _ _ HXa.out
            have fa := HTw5.out.row.free (b.off + O2)
            have yv : w5.cell? ⟨g, b.off + 2, none⟩ = some (.int .i64 xv) := HTw5.out.row.cell _ _ HXv.out
            have fv := HTw5.out.row.free (b.off + 2)
            refine wp_region_ext_tail 21 (by kernel_rfl) (by kernel_rfl) ?_
            simp only [List.take_succ_cons, List.take_zero, List.drop_succ_cons, List.drop_zero]
            repeat (go_big_quiet_step ((go_at_call 46; with_reducible exact ext_same (rnum_any false _))))
            refine wpQuiet_nil ?_
            intro w6 hb6
            replace hb6 := ext_below hb6
            have HTw6 := Lib.hid (HTw5.out.below hb6)
            clear yo fo ya fa yv fv hb6 b1 b2 hql a0 a11 a25 lD lg
            have yo : w6.cell? ⟨g, b.off + O, none⟩ = some (.int .i64 xo) := HTw6.out.row.cell _ _ HXo.out
            have fo := HTw6.out.row.free (b.off + O)
            have lg := HTw6.out.row.lt
            go_upto_region 28 with (fail)
            refine wp_name fun W8 hW8 => ?_
            have HT8 : Hid (RS w W8 g q n bl (zK.set (b.off + O) 0)) := Lib.hid (by rw [hW8.out]; exact (HTw6.out.put (b.off + O) _))
            clear hW8 yo fo lg
            go_wp2
            go_roundw
            case rel => exact ⟨k + 1, by omega, by go_num, Lib.hid (by rw [HZN.out]; exact HT8.out)⟩
            case measure => simp [intOf]; omega
           ·have ua : (xa != 0) = true := by simp [hza]
            have HNZ := Lib.hid hza
            obtain ⟨vl, hvl⟩ : ∃ q, x.vel = q := ⟨_, rfl⟩
            have HVL := Lib.hid hvl
            rw [hvl] at a11 HAw5
            clear hvl hza
            by_cases hv : vl = xv
            ·have HV := Lib.hid hv
             have uv : (xv == vl) = true := by simp [hv]
             clear hv
             have HEQ : Hid (looksP b.kind b.off (some x) zK = zK.set (b.off + O) 1) := Lib.hid (by
              rw [HKE.out]
              unfold looksP
              rw [if_neg (by decide), if_pos rfl, HOK27.out]
              show zK.set _ (b01 (decide (zK[b.off + (O + 2)]?.getD 0 ≠ 0) && decide (x.vel = zK[b.off + 2]?.getD 0))) = _; rw [(show zK[b.off + (O + 2)]?.getD 0 = xa by rw [show O + 2 = O2 from HO2E.out.symm, HXa.out]; rfl), (show zK[b.off + 2]?.getD 0 = xv by rw [HXv.out]; rfl)]; rw [decide_eq_true HNZ.out, HVL.out, decide_eq_true HV.out]; rfl)
             have HZN : Hid (lookP (bl.take (k + 1)) xs zR = zK.set (b.off + O) 1) := Lib.hid (by
              unfold lookP
              rw [fold_take _ zR HBK.out]
              have := HZK.out
              unfold lookP at this
              rw [this]
              unfold look1
              rw [HZ0.out, Option.getD_some, HAX.out, HEQ.out])
             go_upto_region 39 with (fail)
             have yo : w5.cell? ⟨g, b.off + O, none⟩ = some (.int .i64 xo) := HTw5.out.row.cell _ _ HXo.out
             have fo := HTw5.out.row.free (b.off + O)
             have ya : w5.cell? ⟨g, b.off + O2, none⟩ = some (.int .i64 xa) := HTw5.out.row.cell _ _ HXa.out
             have fa := HTw5.out.row.free (b.off + O2)
             have yv : w5.cell? ⟨g, b.off + 2, none⟩ = some (.int .i64 xv) := HTw5.out.row.cell _ _ HXv.out
             have fv := HTw5.out.row.free (b.off + 2)
             refine wp_region_ext_tail 21 (by kernel_rfl) (by kernel_rfl) ?_
             simp only [List.take_succ_cons, List.take_zero, List.drop_succ_cons, List.drop_zero]
             repeat (go_big_quiet_step ((go_at_call 46; with_reducible exact ext_same (rnum_any true _))))
             refine wpQuiet_nil ?_
             intro w6 hb6
             replace hb6 := ext_below hb6
             have HTw6 := Lib.hid (HTw5.out.below hb6)
             clear yo fo ya fa yv fv hb6 b1 b2 hql a0 a11 a25 lD lg
             have yo : w6.cell? ⟨g, b.off + O, none⟩ = some (.int .i64 xo) := HTw6.out.row.cell _ _ HXo.out
             have fo := HTw6.out.row.free (b.off + O)
             have lg := HTw6.out.row.lt
             go_upto_region 28 with (fail)
             refine wp_name fun W8 hW8 => ?_
             have HT8 : Hid (RS w W8 g q n bl (zK.set (b.off + O) 1)) := Lib.hid (by rw [hW8.out]; exact (HTw6.out.put (b.off + O) _))
             clear hW8 yo fo lg
             go_wp2
             go_roundw
             case rel => exact ⟨k + 1, by omega, by go_num, Lib.hid (by rw [HZN.out]; exact HT8.out)⟩
             case measure => simp [intOf]; omega
            ·have HV := Lib.hid hv
             have uv : (xv == vl) = false := by simp; omega
             clear hv
             have HEQ : Hid (looksP b.kind b.off (some x) zK = zK.set (b.off + O) 0) := Lib.hid (by
              rw [HKE.out]
              unfold looksP
              rw [if_neg (by decide), if_pos rfl, HOK27.out]
              show zK.set _ (b01 (decide (zK[b.off + (O + 2)]?.getD 0 ≠ 0) && decide (x.vel = zK[b.off + 2]?.getD 0))) = _; rw [(show zK[b.off + (O + 2)]?.getD 0 = xa by rw [show O + 2 = O2 from HO2E.out.symm, HXa.out]; rfl), (show zK[b.off + 2]?.getD 0 = xv by rw [HXv.out]; rfl)]; rw [decide_eq_true HNZ.out, HVL.out, decide_eq_false HV.out]; rfl)
             have HZN : Hid (lookP (bl.take (k + 1)) xs zR = zK.set (b.off + O) 0) := Lib.hid (by
              unfold lookP
              rw [fold_take _ zR HBK.out]
              have := HZK.out
              unfold lookP at this
              rw [this]
              unfold look1
              rw [HZ0.out, Option.getD_some, HAX.out, HEQ.out])
             go_upto_region 39 with (fail)
             have yo : w5.cell? ⟨g, b.off + O, none⟩ = some (.int .i64 xo) := HTw5.out.row.cell _ _ HXo.out
             have fo := HTw5.out.row.free (b.off + O)
             have ya : w5.cell? ⟨g, b.off + O2, none⟩ = some (.int .i64 xa) := HTw5.out.row.cell _ _ HXa.out
             have fa := HTw5.out.row.free (b.off + O2)
             have yv : w5.cell? ⟨g, b.off + 2, none⟩ = some (.int .i64 xv) := HTw5.out.row.cell _ _ HXv.out
             have fv := HTw5.out.row.free (b.off + 2)
             refine wp_region_ext_tail 21 (by kernel_rfl) (by kernel_rfl) ?_
             simp only [List.take_succ_cons, List.take_zero, List.drop_succ_cons, List.drop_zero]
             repeat (go_big_quiet_step ((go_at_call 46; with_reducible exact ext_same (rnum_any false _))))
             refine wpQuiet_nil ?_
             intro w6 hb6
             replace hb6 := ext_below hb6
             have HTw6 := Lib.hid (HTw5.out.below hb6)
             clear yo fo ya fa yv fv hb6 b1 b2 hql a0 a11 a25 lD lg
             have yo : w6.cell? ⟨g, b.off + O, none⟩ = some (.int .i64 xo) := HTw6.out.row.cell _ _ HXo.out
             have fo := HTw6.out.row.free (b.off + O)
             have lg := HTw6.out.row.lt
             go_upto_region 28 with (fail)
             refine wp_name fun W8 hW8 => ?_
             have HT8 : Hid (RS w W8 g q n bl (zK.set (b.off + O) 0)) := Lib.hid (by rw [hW8.out]; exact (HTw6.out.put (b.off + O) _))
             clear hW8 yo fo lg
             go_wp2
             go_roundw
             case rel => exact ⟨k + 1, by omega, by go_num, Lib.hid (by rw [HZN.out]; exact HT8.out)⟩
             case measure => simp [intOf]; omega
         ·have HN27 := Lib.hid hk27
          clear hk27
          by_cases hk28 : b.kind = 28
          ·as_aux_lemma =>
            have HKE := Lib.hid hk28
            rw [hk28] at b1
            clear hk28
            have hcnt := (cmdK (kind := 28) (by omega)).cnt
            have htwo := (cmdK (kind := 28) (by omega)).two
            have hbl2 := HBL2.out
            have hOK := HO.out
            rw [HKE.out] at hbl2 hOK
            rw [hcnt, hOK] at hbl2
            rw [hOK] at htwo
            have HOK27 := Lib.hid hOK
            have hzl := HTw5.out.len
            have hln := HLN.out
            obtain ⟨O2, hO2⟩ : ∃ x, x = O + 2 := ⟨_, rfl⟩
            have hw2 : IntKind.i64.wrap ((O : Int) + 2) = (O2 : Int) := by rw [IntKind.wrap_i64]; omega
            have hi2 : (2 : Int) < (ln : Int) := by omega
            have hiO : (0 : Int) ≤ (O : Int) ∧ (O : Int) < (ln : Int) := by omega
            have hiO2 : (0 : Int) ≤ (O2 : Int) ∧ (O2 : Int) < (ln : Int) := by omega
            have HO2E := Lib.hid hO2
            obtain ⟨xo, hxo⟩ : ∃ x, zK[b.off + O]? = some x := ⟨_, List.getElem?_eq_getElem (by omega)⟩
            have HXo := Lib.hid hxo
            clear hxo
            obtain ⟨xa, hxa⟩ : ∃ x, zK[b.off + O2]? = some x := ⟨_, List.getElem?_eq_getElem (by omega)⟩
            have HXa := Lib.hid hxa
            clear hxa
            obtain ⟨xv, hxv⟩ : ∃ x, zK[b.off + 2]? = some x := ⟨_, List.getElem?_eq_getElem (by omega)⟩
            have HXv := Lib.hid hxv
            clear hxv
            clear hcnt htwo hbl2 hOK hzl hO2 hln
            by_cases hza : xa = 0
            ·have HZA := Lib.hid hza
             have ua : (xa != 0) = false := by simp [hza]
             clear hza
             have HEQ : Hid (looksP b.kind b.off (some x) zK = zK.set (b.off + O) 0) := Lib.hid (by
              rw [HKE.out]
              unfold looksP
              rw [if_neg (by decide), if_neg (by decide), if_pos rfl, HOK27.out]
              show zK.set _ (b01 (decide (zK[b.off + (O + 2)]?.getD 0 ≠ 0) && x.ins)) = _; rw [(show zK[b.off + (O + 2)]?.getD 0 = xa by rw [show O + 2 = O2 from HO2E.out.symm, HXa.out]; rfl)]; rw [HZA.out]; rfl)
             have HZN : Hid (lookP (bl.take (k + 1)) xs zR = zK.set (b.off + O) 0) := Lib.hid (by
              unfold lookP
              rw [fold_take _ zR HBK.out]
              have := HZK.out
              unfold lookP at this
              rw [this]
              unfold look1
              rw [HZ0.out, Option.getD_some, HAX.out, HEQ.out])
             have yo : w5.cell? ⟨g, b.off + O, none⟩ = some (.int .i64 xo) := HTw5.out.row.cell _ _ HXo.out
             have fo := HTw5.out.row.free (b.off + O)
             have ya : w5.cell? ⟨g, b.off + O2, none⟩ = some (.int .i64 xa) := HTw5.out.row.cell _ _ HXa.out
             have fa := HTw5.out.row.free (b.off + O2)
             have yv : w5.cell? ⟨g, b.off + 2, none⟩ = some (.int .i64 xv) := HTw5.out.row.cell _ _ HXv.out
             have fv := HTw5.out.row.free (b.off + 2)
             go_wp2_with fail
             refine (rnum_any false _).mono ?_
             rintro e w6 ⟨rfl, rfl⟩
             go_upto_region 28 with (fail)
             refine wp_name fun W8 hW8 => ?_
             have HT8 : Hid (RS w W8 g q n bl (zK.set (b.off + O) 0)) := Lib.hid (by rw [hW8.out]; exact (HTw5.out.put (b.off + O) _))
             clear hW8 yo fo ya fa yv fv b1 b2 hql a0 a11 a25 lD lg
             go_wp2
             go_roundw
             case rel => exact ⟨k + 1, by omega, by go_num, Lib.hid (by rw [HZN.out]; exact HT8.out)⟩
             case measure => simp [intOf]; omega
            ·have ua : (xa != 0) = true := by simp [hza]
             have HNZ := Lib.hid hza
             obtain ⟨vl, hvl⟩ : ∃ q, x.ins = q := ⟨_, rfl⟩
             have HVL := Lib.hid hvl
             rw [hvl] at a25 HAw5
             clear hvl hza
             cases vl
             ·have HEQ : Hid (looksP b.kind b.off (some x) zK = zK.set (b.off + O) 0) := Lib.hid (by
               rw [HKE.out]
               unfold looksP
               rw [if_neg (by decide), if_neg (by decide), if_pos rfl, HOK27.out]
               show zK.set _ (b01 (decide (zK[b.off + (O + 2)]?.getD 0 ≠ 0) && x.ins)) = _; rw [(show zK[b.off + (O + 2)]?.getD 0 = xa by rw [show O + 2 = O2 from HO2E.out.symm, HXa.out]; rfl)]; rw [decide_eq_true HNZ.out, HVL.out]; rfl)
              have HZN : Hid (lookP (bl.take (k + 1)) xs zR = zK.set (b.off + O) 0) := Lib.hid (by
               unfold lookP
               rw [fold_take _ zR HBK.out]
               have := HZK.out
               unfold lookP at this
               rw [this]
               unfold look1
               rw [HZ0.out, Option.getD_some, HAX.out, HEQ.out])
              have yo : w5.cell? ⟨g, b.off + O, none⟩ = some (.int .i64 xo) := HTw5.out.row.cell _ _ HXo.out
              have fo := HTw5.out.row.free (b.off + O)
              have ya : w5.cell? ⟨g, b.off + O2, none⟩ = some (.int .i64 xa) := HTw5.out.row.cell _ _ HXa.out
              have fa := HTw5.out.row.free (b.off + O2)
              have yv : w5.cell? ⟨g, b.off + 2, none⟩ = some (.int .i64 xv) := HTw5.out.row.cell _ _ HXv.out
              have fv := HTw5.out.row.free (b.off + 2)
              go_wp2_with fail
              refine (rnum_any false _).mono ?_
              rintro e w6 ⟨rfl, rfl⟩
              go_upto_region 28 with (fail)
              refine wp_name fun W8 hW8 => ?_
              have HT8 : Hid (RS w W8 g q n bl (zK.set (b.off + O) 0)) := Lib.hid (by rw [hW8.out]; exact (HTw5.out.put (b.off + O) _))
              clear hW8 yo fo ya fa yv fv b1 b2 hql a0 a11 a25 lD lg
              go_wp2
              go_roundw
              case rel => exact ⟨k + 1, by omega, by go_num, Lib.hid (by rw [HZN.out]; exact HT8.out)⟩
              case measure => simp [intOf]; omega
             ·have HEQ : Hid (looksP b.kind b.off (some x) zK = zK.set (b.off + O) 1) := Lib.hid (by
               rw [HKE.out]
               unfold looksP
               rw [if_neg (by decide), if_neg (by decide), if_pos rfl, HOK27.out]
               show zK.set _ (b01 (decide (zK[b.off + (O + 2)]?.getD 0 ≠ 0) && x.ins)) = _; rw [(show zK[b.off + (O + 2)]?.getD 0 = xa by rw [show O + 2 = O2 from HO2E.out.symm, HXa.out]; rfl)]; rw [decide_eq_true HNZ.out, HVL.out]; rfl)
              have HZN : Hid (lookP (bl.take (k + 1)) xs zR = zK.set (b.off + O) 1) := Lib.hid (by
               unfold lookP
               rw [fold_take _ zR HBK.out]
               have := HZK.out
               unfold lookP at this
               rw [this]
               unfold look1
               rw [HZ0.out, Option.getD_some, HAX.out, HEQ.out])
              have yo : w5.cell? ⟨g, b.off + O, none⟩ = some (.int .i64 xo) := HTw5.out.row.cell _ _ HXo.out
              have fo := HTw5.out.row.free (b.off + O)
              have ya : w5.cell? ⟨g, b.off + O2, none⟩ = some (.int .i64 xa) := HTw5.out.row.cell _ _ HXa.out
              have fa := HTw5.out.row.free (b.off + O2)
              have yv : w5.cell? ⟨g, b.off + 2, none⟩ = some (.int .i64 xv) := HTw5.out.row.cell _ _ HXv.out
              have fv := HTw5.out.row.free (b.off + 2)
              go_wp2_with fail
              refine (rnum_any true _).mono ?_
              rintro e w6 ⟨rfl, rfl⟩
              go_upto_region 28 with (fail)
              refine wp_name fun W8 hW8 => ?_
              have HT8 : Hid (RS w W8 g q n bl (zK.set (b.off + O) 1)) := Lib.hid (by rw [hW8.out]; exact (HTw5.out.put (b.off + O) _))
              clear hW8 yo fo ya fa yv fv b1 b2 hql a0 a11 a25 lD lg
              go_wp2
              go_roundw
              case rel => exact ⟨k + 1, by omega, by go_num, Lib.hid (by rw [HZN.out]; exact HT8.out)⟩
              case measure => simp [intOf]; omega
          ·have HN28 := Lib.hid hk28
           clear hk28
           by_cases hk29 : b.kind = 29
           ·as_aux_lemma =>
             have HKE := Lib.hid hk29
             rw [hk29] at b1
             clear hk29
             have hcnt := othK.c29
             have hbl2 := HBL2.out
             rw [HKE.out, hcnt] at hbl2
             have hzl := HTw5.out.len
             have hln := HLN.out
             have hi2 : (2 : Int) < (ln : Int) := by omega
             have hi3 : (3 : Int) < (ln : Int) := by omega
             have hi4 : (4 : Int) < (ln : Int) := by omega
             obtain ⟨x2, hx2⟩ : ∃ x, zK[b.off + 2]? = some x := ⟨_, List.getElem?_eq_getElem (by omega)⟩
             have HX2 := Lib.hid hx2
             clear hx2
             obtain ⟨x3, hx3⟩ : ∃ x, zK[b.off + 3]? = some x := ⟨_, List.getElem?_eq_getElem (by omega)⟩
             have HX3 := Lib.hid hx3
             clear hx3
             obtain ⟨x4, hx4⟩ : ∃ x, zK[b.off + 4]? = some x := ⟨_, List.getElem?_eq_getElem (by omega)⟩
             have HX4 := Lib.hid hx4
             clear hx4
             clear hcnt hbl2 hzl hln
             have y4 : w5.cell? ⟨g, b.off + 4, none⟩ = some (.int .i64 x4) := HTw5.out.row.cell _ _ HX4.out
             by_cases h2 : x4 = 2
             ·have u2 : (x4 == 2) = true := by simp [h2]
              have H2 := Lib.hid h2
              clear h2
              obtain ⟨sv, hsv⟩ : ∃ q, x.st = q := ⟨_, rfl⟩
              have HSV := Lib.hid hsv
              rw [hsv] at a0 HAw5
              clear hsv
              by_cases h7 : sv = 7
              ·have H7 := Lib.hid h7
               subst h7
               have HEQ : Hid (looksP b.kind b.off (some x) zK = ((zK.set (b.off + 2) 0).set (b.off + 3) 1).set (b.off + 4) 1) := Lib.hid (by rw [HKE.out]; unfold looksP; rw [if_neg (by decide), if_neg (by decide), if_neg (by decide), if_pos rfl, HX4.out, Option.getD_some]; rw [if_pos H2.out]; show ((zK.set _ (b01 (decide (x.st ≠ 7)))).set _ (b01 (decide (x.st = 7)))).set _ 1 = _; rw [HSV.out]; rfl)
               have HZN : Hid (lookP (bl.take (k + 1)) xs zR = ((zK.set (b.off + 2) 0).set (b.off + 3) 1).set (b.off + 4) 1) := Lib.hid (by
                unfold lookP
                rw [fold_take _ zR HBK.out]
                have := HZK.out
                unfold lookP at this
                rw [this]
                unfold look1
                rw [HZ0.out, Option.getD_some, HAX.out, HEQ.out])
               go_upto_region 44 with (fail)
               clear y4
               have HSB : Hid (∀ W', But g w5 W' → W'.cell? ⟨D, 0, none⟩ = some (.int .i64 7) ∧ D < W'.heap.size) := Lib.hid (fun W' h => ⟨(h.cell D 0 HAw5.out.lt hDg).trans HAw5.out.c0, Nat.lt_of_lt_of_le HAw5.out.lt h.size⟩)
               have y2 : w5.cell? ⟨g, b.off + 2, none⟩ = some (.int .i64 x2) := HTw5.out.row.cell _ _ HX2.out
               have f2 := HTw5.out.row.free (b.off + 2)
               have y3 : w5.cell? ⟨g, b.off + 3, none⟩ = some (.int .i64 x3) := HTw5.out.row.cell _ _ HX3.out
               have f3 := HTw5.out.row.free (b.off + 3)
               have y4 : w5.cell? ⟨g, b.off + 4, none⟩ = some (.int .i64 x4) := HTw5.out.row.cell _ _ HX4.out
               have f4 := HTw5.out.row.free (b.off + 4)
               refine wp_region_held_drew (S := fun W' => W'.cell? ⟨D, 0, none⟩ = some (.int .i64 7) ∧ D < W'.heap.size) (by kernel_rfl) (HSB.out _ ((But.refl g w5).drew)) (fun hHeld => ?_)
               (try simp only [Act.put, List.setIfInBounds_toArray, List.set_cons_zero, List.set_cons_succ])
               (refine takeH (i := 0) (v := ?_) rfl (by kernel_rfl) (by kernel_rfl) (by kernel_rfl) (fun _ _ _ h => h) (Or.inl ⟨by first | kernel_rfl | rfl, ?_⟩) (by assumption) ?_; rotate_left; (focus (intro w' hSw; (try dsimp only at hSw); go_simp; try (with_reducible rfl))); (try simp only [Act.put, List.setIfInBounds_toArray, List.set_cons_zero, List.set_cons_succ]))
               (refine takeH (i := 1) (v := ?_) rfl (by kernel_rfl) (by kernel_rfl) (by kernel_rfl) (fun _ _ _ h => h) (Or.inl ⟨by first | kernel_rfl | rfl, ?_⟩) (by assumption) ?_; rotate_left; (focus (intro w' hSw; (try dsimp only at hSw); go_simp; try (with_reducible rfl))); (try simp only [Act.put, List.setIfInBounds_toArray, List.set_cons_zero, List.set_cons_succ]))
               (refine takeH (i := 2) (v := ?_) rfl (by kernel_rfl) (by kernel_rfl) (by kernel_rfl) (fun _ _ _ h => h) (Or.inl ⟨by first | kernel_rfl | rfl, ?_⟩) (by assumption) ?_; rotate_left; (focus (intro w' hSw; (try dsimp only at hSw); go_simp; try (with_reducible rfl))); (try simp only [Act.put, List.setIfInBounds_toArray, List.set_cons_zero, List.set_cons_succ]))
               (refine takeH (i := 3) (v := ?_) rfl (by kernel_rfl) (by kernel_rfl) (by kernel_rfl) (fun _ _ _ h => h) (Or.inl ⟨by first | kernel_rfl | rfl, ?_⟩) (by assumption) ?_; rotate_left; (focus (intro w' hSw; (try dsimp only at hSw); go_simp; try (with_reducible rfl))); (try simp only [Act.put, List.setIfInBounds_toArray, List.set_cons_zero, List.set_cons_succ]))
               (refine takeH (i := 4) (v := ?_) rfl (by kernel_rfl) (by kernel_rfl) (by kernel_rfl) (fun _ _ _ h => h) (Or.inl ⟨by first | kernel_rfl | rfl, ?_⟩) (by assumption) ?_; rotate_left; (focus (intro w' hSw; (try dsimp only at hSw); go_simp; try (with_reducible rfl))); (try simp only [Act.put, List.setIfInBounds_toArray, List.set_cons_zero, List.set_cons_succ]))
               (refine takeH (i := 5) (v := ?_) rfl (by kernel_rfl) (by kernel_rfl) (by kernel_rfl) (fun _ _ _ h => h) (Or.inl ⟨by first | kernel_rfl | rfl, ?_⟩) (by assumption) ?_; rotate_left; (focus (intro w' hSw; (try dsimp only at hSw); go_simp; try (with_reducible rfl))); (try simp only [Act.put, List.setIfInBounds_toArray, List.set_cons_zero, List.set_cons_succ]))
               (refine takeH (i := 7) (v := ?_) rfl (by kernel_rfl) (by kernel_rfl) (by kernel_rfl) (fun _ _ _ h => h) (Or.inl ⟨by first | kernel_rfl | rfl, ?_⟩) (by assumption) ?_; rotate_left; (focus (intro w' hSw; (try dsimp only at hSw); go_simp; try (with_reducible rfl))); (try simp only [Act.put, List.setIfInBounds_toArray, List.set_cons_zero, List.set_cons_succ]))
               (refine takeH (i := 8) (v := ?_) rfl (by kernel_rfl) (by kernel_rfl) (by kernel_rfl) (fun _ _ _ h => h) (Or.inl ⟨by first | kernel_rfl | rfl, ?_⟩) (by assumption) ?_; rotate_left; (focus (intro w' hSw; (try dsimp only at hSw); go_simp; try (with_reducible rfl))); (try simp only [Act.put, List.setIfInBounds_toArray, List.set_cons_zero, List.set_cons_succ]))
               (refine takeH (i := 9) (v := ?_) rfl (by kernel_rfl) (by kernel_rfl) (by kernel_rfl) (fun _ _ _ h => h) (Or.inl ⟨by first | kernel_rfl | rfl, ?_⟩) (by assumption) ?_; rotate_left; (focus (intro w' hSw; (try dsimp only at hSw); go_simp; try (with_reducible rfl))); (try simp only [Act.put, List.setIfInBounds_toArray, List.set_cons_zero, List.set_cons_succ]))
               refine oneH (i := 6) (by kernel_rfl) rfl (fun K hK => ?_)
               go_simp
               go_at_call 46
               refine (rnum_any false _).mono ?_
               rintro e w' ⟨rfl, rfl⟩
               go_wp2_with fail
               refine hK.out _ _ (HSB.out _ ((But.refl g w5).drew)) (fun hHeld => ?_)
               clear hK K
               (try simp only [Act.put, List.setIfInBounds_toArray, List.set_cons_zero, List.set_cons_succ])
               refine oneH (i := 10) (by kernel_rfl) rfl (fun K hK => ?_)
               go_simp
               go_at_call 46
               refine (rnum_any true _).mono ?_
               rintro e w' ⟨rfl, rfl⟩
               go_wp2_with fail
               refine hK.out _ _ (HSB.out _ ((But.refl g w5).drew)) (fun hHeld => ?_)
               clear hK K
               (try simp only [Act.put, List.setIfInBounds_toArray, List.set_cons_zero, List.set_cons_succ])
               (refine takeH (i := 11) (v := ?_) rfl (by kernel_rfl) (by kernel_rfl) (by kernel_rfl) (fun _ _ _ h => h) (Or.inl ⟨by first | kernel_rfl | rfl, ?_⟩) (by assumption) ?_; rotate_left; (focus (intro w' hSw; (try dsimp only at hSw); go_simp; try (with_reducible rfl))); (try simp only [Act.put, List.setIfInBounds_toArray, List.set_cons_zero, List.set_cons_succ]))
               refine oneH (i := 12) (by kernel_rfl) rfl (fun K hK => ?_)
               go_simp
               refine hK.out _ _ (HSB.out _ (((But.refl g w5).drew).set _ _)) (fun hHeld => ?_)
               clear hK K
               (try simp only [Act.put, List.setIfInBounds_toArray, List.set_cons_zero, List.set_cons_succ])
               (refine takeH (i := 13) (v := ?_) rfl (by kernel_rfl) (by kernel_rfl) (by kernel_rfl) (fun _ _ _ h => h) (Or.inl ⟨by first | kernel_rfl | rfl, ?_⟩) (by assumption) ?_; rotate_left; (focus (intro w' hSw; (try dsimp only at hSw); go_simp; try (with_reducible rfl))); (try simp only [Act.put, List.setIfInBounds_toArray, List.set_cons_zero, List.set_cons_succ]))
               refine oneH (i := 14) (by kernel_rfl) rfl (fun K hK => ?_)
               go_simp
               refine hK.out _ _ (HSB.out _ ((((But.refl g w5).drew).set _ _).set _ _)) (fun hHeld => ?_)
               clear hK K
               (try simp only [Act.put, List.setIfInBounds_toArray, List.set_cons_zero, List.set_cons_succ])
               (refine takeH (i := 15) (v := ?_) rfl (by kernel_rfl) (by kernel_rfl) (by kernel_rfl) (fun _ _ _ h => h) (Or.inl ⟨by first | kernel_rfl | rfl, ?_⟩) (by assumption) ?_; rotate_left; (focus (intro w' hSw; (try dsimp only at hSw); go_simp; try (with_reducible rfl))); (try simp only [Act.put, List.setIfInBounds_toArray, List.set_cons_zero, List.set_cons_succ]))
               refine oneH (i := 16) (by kernel_rfl) rfl (fun K hK => ?_)
               go_simp
               refine hK.out _ _ (HSB.out _ (((((But.refl g w5).drew).set _ _).set _ _).set _ _)) (fun hHeld => ?_)
               clear hK K
               (try simp only [Act.put, List.setIfInBounds_toArray, List.set_cons_zero, List.set_cons_succ])
               refine wpAnyH_done (by kernel_rfl) ?_ _
               (try simp only [Act.put, List.setIfInBounds_toArray, List.set_cons_zero, List.set_cons_succ])
               go_upto_region 28 with (fail)
               refine wp_name fun W8 hW8 => ?_
               have HT8 : Hid (RS w W8 g q n bl (((zK.set (b.off + 2) 0).set (b.off + 3) 1).set (b.off + 4) 1)) := Lib.hid (by rw [hW8.out]; exact ((((HTw5.out.below (show Below w5.heap.size w5 w5.drew by (repeat' (first | with_reducible (first | exact Below.refl _ _ | assumption | refine below_drewN ?_ _ | refine Below.drew ?_ | refine below_new ?_ (Nat.le_refl _) _ | refine Below.setCell ?_ ?_ _ | refine below_go ?_ (by assumption) (Nat.le_refl _)) | (simp; done) | (simp; omega) | omega)))).put (b.off + 2) _).put (b.off + 3) _).put (b.off + 4) _))
               clear hW8 y2 f2 y3 f3 y4 f4 b1 b2 hql a0 a11 a25 lD lg
               go_wp2
               go_roundw
               case rel => exact ⟨k + 1, by omega, by go_num, Lib.hid (by rw [HZN.out]; exact HT8.out)⟩
               case measure => simp [intOf]; omega
              ·have H7 := Lib.hid h7
               have u7 : (sv == 7) = false := by simp [h7]
               have u7n : (sv != 7) = true := by simp [h7]
               clear h7
               have HEQ : Hid (looksP b.kind b.off (some x) zK = ((zK.set (b.off + 2) 1).set (b.off + 3) 0).set (b.off + 4) 1) := Lib.hid (by rw [HKE.out]; unfold looksP; rw [if_neg (by decide), if_neg (by decide), if_neg (by decide), if_pos rfl, HX4.out, Option.getD_some]; rw [if_pos H2.out]; show ((zK.set _ (b01 (decide (x.st ≠ 7)))).set _ (b01 (decide (x.st = 7)))).set _ 1 = _; rw [HSV.out, decide_eq_true H7.out, decide_eq_false H7.out]; rfl)
               have HZN : Hid (lookP (bl.take (k + 1)) xs zR = ((zK.set (b.off + 2) 1).set (b.off + 3) 0).set (b.off + 4) 1) := Lib.hid (by
                unfold lookP
                rw [fold_take _ zR HBK.out]
                have := HZK.out
                unfold lookP at this
                rw [this]
                unfold look1
                rw [HZ0.out, Option.getD_some, HAX.out, HEQ.out])
               go_upto_region 44 with (fail)
               clear y4
               have HSB : Hid (∀ W', But g w5 W' → W'.cell? ⟨D, 0, none⟩ = some (.int .i64 sv) ∧ D < W'.heap.size) := Lib.hid (fun W' h => ⟨(h.cell D 0 HAw5.out.lt hDg).trans HAw5.out.c0, Nat.lt_of_lt_of_le HAw5.out.lt h.size⟩)
               have y2 : w5.cell? ⟨g, b.off + 2, none⟩ = some (.int .i64 x2) := HTw5.out.row.cell _ _ HX2.out
               have f2 := HTw5.out.row.free (b.off + 2)
               have y3 : w5.cell? ⟨g, b.off + 3, none⟩ = some (.int .i64 x3) := HTw5.out.row.cell _ _ HX3.out
               have f3 := HTw5.out.row.free (b.off + 3)
               have y4 : w5.cell? ⟨g, b.off + 4, none⟩ = some (.int .i64 x4) := HTw5.out.row.cell _ _ HX4.out
               have f4 := HTw5.out.row.free (b.off + 4)
               refine wp_region_held_drew (S := fun W' => W'.cell? ⟨D, 0, none⟩ = some (.int .i64 sv) ∧ D < W'.heap.size) (by kernel_rfl) (HSB.out _ ((But.refl g w5).drew)) (fun hHeld => ?_)
               (try simp only [Act.put, List.setIfInBounds_toArray, List.set_cons_zero, List.set_cons_succ])
               (refine takeH (i := 0) (v := ?_) rfl (by kernel_rfl) (by kernel_rfl) (by kernel_rfl) (fun _ _ _ h => h) (Or.inl ⟨by first | kernel_rfl | rfl, ?_⟩) (by assumption) ?_; rotate_left; (focus (intro w' hSw; (try dsimp only at hSw); go_simp; try (with_reducible rfl))); (try simp only [Act.put, List.setIfInBounds_toArray, List.set_cons_zero, List.set_cons_succ]))
               (refine takeH (i := 1) (v := ?_) rfl (by kernel_rfl) (by kernel_rfl) (by kernel_rfl) (fun _ _ _ h => h) (Or.inl ⟨by first | kernel_rfl | rfl, ?_⟩) (by assumption) ?_; rotate_left; (focus (intro w' hSw; (try dsimp only at hSw); go_simp; try (with_reducible rfl))); (try simp only [Act.put, List.setIfInBounds_toArray, List.set_cons_zero, List.set_cons_succ]))
               (refine takeH (i := 2) (v := ?_) rfl (by kernel_rfl) (by kernel_rfl) (by kernel_rfl) (fun _ _ _ h => h) (Or.inl ⟨by first | kernel_rfl | rfl, ?_⟩) (by assumption) ?_; rotate_left; (focus (intro w' hSw; (try dsimp only at hSw); go_simp; try (with_reducible rfl))); (try simp only [Act.put, List.setIfInBounds_toArray, List.set_cons_zero, List.set_cons_succ]))
               (refine takeH (i := 3) (v := ?_) rfl (by kernel_rfl) (by kernel_rfl) (by kernel_rfl) (fun _ _ _ h => h) (Or.inl ⟨by first | kernel_rfl | rfl, ?_⟩) (by assumption) ?_; rotate_left; (focus (intro w' hSw; (try dsimp only at hSw); go_simp; try (with_reducible rfl))); (try simp only [Act.put, List.setIfInBounds_toArray, List.set_cons_zero, List.set_cons_succ]))
               (refine takeH (i := 4) (v := ?_) rfl (by kernel_rfl) (by kernel_rfl) (by kernel_rfl) (fun _ _ _ h => h) (Or.inl ⟨by first | kernel_rfl | rfl, ?_⟩) (by assumption) ?_; rotate_left; (focus (intro w' hSw; (try dsimp only at hSw); go_simp; try (with_reducible rfl))); (try simp only [Act.put, List.setIfInBounds_toArray, List.set_cons_zero, List.set_cons_succ]))
               (refine takeH (i := 5) (v := ?_) rfl (by kernel_rfl) (by kernel_rfl) (by kernel_rfl) (fun _ _ _ h => h) (Or.inl ⟨by first | kernel_rfl | rfl, ?_⟩) (by assumption) ?_; rotate_left; (focus (intro w' hSw; (try dsimp only at hSw); go_simp; try (with_reducible rfl))); (try simp only [Act.put, List.setIfInBounds_toArray, List.set_cons_zero, List.set_cons_succ]))
               (refine takeH (i := 7) (v := ?_) rfl (by kernel_rfl) (by kernel_rfl) (by kernel_rfl) (fun _ _ _ h => h) (Or.inl ⟨by first | kernel_rfl | rfl, ?_⟩) (by assumption) ?_; rotate_left; (focus (intro w' hSw; (try dsimp only at hSw); go_simp; try (with_reducible rfl))); (try simp only [Act.put, List.setIfInBounds_toArray, List.set_cons_zero, List.set_cons_succ]))
               (refine takeH (i := 8) (v := ?_) rfl (by kernel_rfl) (by kernel_rfl) (by kernel_rfl) (fun _ _ _ h => h) (Or.inl ⟨by first | kernel_rfl | rfl, ?_⟩) (by assumption) ?_; rotate_left; (focus (intro w' hSw; (try dsimp only at hSw); go_simp; try (with_reducible rfl))); (try simp only [Act.put, List.setIfInBounds_toArray, List.set_cons_zero, List.set_cons_succ]))
               (refine takeH (i := 9) (v := ?_) rfl (by kernel_rfl) (by kernel_rfl) (by kernel_rfl) (fun _ _ _ h => h) (Or.inl ⟨by first | kernel_rfl | rfl, ?_⟩) (by assumption) ?_; rotate_left; (focus (intro w' hSw; (try dsimp only at hSw); go_simp; try (with_reducible rfl))); (try simp only [Act.put, List.setIfInBounds_toArray, List.set_cons_zero, List.set_cons_succ]))
               refine oneH (i := 6) (by kernel_rfl) rfl (fun K hK => ?_)
               go_simp
               go_at_call 46
               refine (rnum_any true _).mono ?_
               rintro e w' ⟨rfl, rfl⟩
               go_wp2_with fail
               refine hK.out _ _ (HSB.out _ ((But.refl g w5).drew)) (fun hHeld => ?_)
               clear hK K
               (try simp only [Act.put, List.setIfInBounds_toArray, List.set_cons_zero, List.set_cons_succ])
               refine oneH (i := 10) (by kernel_rfl) rfl (fun K hK => ?_)
               go_simp
               go_at_call 46
               refine (rnum_any false _).mono ?_
               rintro e w' ⟨rfl, rfl⟩
               go_wp2_with fail
               refine hK.out _ _ (HSB.out _ ((But.refl g w5).drew)) (fun hHeld => ?_)
               clear hK K
               (try simp only [Act.put, List.setIfInBounds_toArray, List.set_cons_zero, List.set_cons_succ])
               (refine takeH (i := 11) (v := ?_) rfl (by kernel_rfl) (by kernel_rfl) (by kernel_rfl) (fun _ _ _ h => h) (Or.inl ⟨by first | kernel_rfl | rfl, ?_⟩) (by assumption) ?_; rotate_left; (focus (intro w' hSw; (try dsimp only at hSw); go_simp; try (with_reducible rfl))); (try simp only [Act.put, List.setIfInBounds_toArray, List.set_cons_zero, List.set_cons_succ]))
               refine oneH (i := 12) (by kernel_rfl) rfl (fun K hK => ?_)
               go_simp
               refine hK.out _ _ (HSB.out _ (((But.refl g w5).drew).set _ _)) (fun hHeld => ?_)
               clear hK K
               (try simp only [Act.put, List.setIfInBounds_toArray, List.set_cons_zero, List.set_cons_succ])
               (refine takeH (i := 13) (v := ?_) rfl (by kernel_rfl) (by kernel_rfl) (by kernel_rfl) (fun _ _ _ h => h) (Or.inl ⟨by first | kernel_rfl | rfl, ?_⟩) (by assumption) ?_; rotate_left; (focus (intro w' hSw; (try dsimp only at hSw); go_simp; try (with_reducible rfl))); (try simp only [Act.put, List.setIfInBounds_toArray, List.set_cons_zero, List.set_cons_succ]))
               refine oneH (i := 14) (by kernel_rfl) rfl (fun K hK => ?_)
               go_simp
               refine hK.out _ _ (HSB.out _ ((((But.refl g w5).drew).set _ _).set _ _)) (fun hHeld => ?_)
               clear hK K
               (try simp only [Act.put, List.setIfInBounds_toArray, List.set_cons_zero, List.set_cons_succ])
               (refine takeH (i := 15) (v := ?_) rfl (by kernel_rfl) (by kernel_rfl) (by kernel_rfl) (fun _ _ _ h => h) (Or.inl ⟨by first | kernel_rfl | rfl, ?_⟩) (by assumption) ?_; rotate_left; (focus (intro w' hSw; (try dsimp only at hSw); go_simp; try (with_reducible rfl))); (try simp only [Act.put, List.setIfInBounds_toArray, List.set_cons_zero, List.set_cons_succ]))
               refine oneH (i := 16) (by kernel_rfl) rfl (fun K hK => ?_)
               go_simp
               refine hK.out _ _ (HSB.out _ (((((But.refl g w5).drew).set _ _).set _ _).set _ _)) (fun hHeld => ?_)
               clear hK K
               (try simp only [Act.put, List.setIfInBounds_toArray, List.set_cons_zero, List.set_cons_succ])
               refine wpAnyH_done (by kernel_rfl) ?_ _
               (try simp only [Act.put, List.setIfInBounds_toArray, List.set_cons_zero, List.set_cons_succ])
               go_upto_region 28 with (fail)
               refine wp_name fun W8 hW8 => ?_
               have HT8 : Hid (RS w W8 g q n bl (((zK.set (b.off + 2) 1).set (b.off + 3) 0).set (b.off + 4) 1)) := Lib.hid (by rw [hW8.out]; exact ((((HTw5.out.below (show Below w5.heap.size w5 w5.drew by (repeat' (first | with_reducible (first | exact Below.refl _ _ | assumption | refine below_drewN ?_ _ | refine Below.drew ?_ | refine below_new ?_ (Nat.le_refl _) _ | refine Below.setCell ?_ ?_ _ | refine below_go ?_ (by assumption) (Nat.le_refl _)) | (simp; done) | (simp; omega) | omega)))).put (b.off + 2) _).put (b.off + 3) _).put (b.off + 4) _))
               clear hW8 y2 f2 y3 f3 y4 f4 b1 b2 hql a0 a11 a25 lD lg
               go_wp2
               go_roundw
               case rel => exact ⟨k + 1, by omega, by go_num, Lib.hid (by rw [HZN.out]; exact HT8.out)⟩
               case measure => simp [intOf]; omega
             ·have u2 : (x4 == 2) = false := by simp [h2]
              have H2 := Lib.hid h2
              have HEQ : Hid (looksP b.kind b.off (some x) zK = zK) := Lib.hid (by rw [HKE.out]; unfold looksP; rw [if_neg (by decide), if_neg (by decide), if_neg (by decide), if_pos rfl, HX4.out, Option.getD_some]; exact if_neg H2.out)
              have HZN : Hid (lookP (bl.take (k + 1)) xs zR = zK) := Lib.hid (by
               unfold lookP
               rw [fold_take _ zR HBK.out]
               have := HZK.out
               unfold lookP at this
               rw [this]
               unfold look1
               rw [HZ0.out, Option.getD_some, HAX.out, HEQ.out])
              clear h2
              go_wp2
              go_roundw
              case rel => exact ⟨k + 1, by omega, by go_num, Lib.hid (by rw [HZN.out]; exact HTw5.out)⟩
              case measure => simp [intOf]; omega
           ·have HN29 := Lib.hid hk29
            clear hk29
            as_aux_lemma =>
             have HEQ : Hid (looksP b.kind b.off (some x) zK = zK) := Lib.hid (by unfold looksP; rw [if_neg HN20.out, if_neg HN27.out, if_neg HN28.out, if_neg HN29.out])
             have u20 : (b.kind == 20) = false := by simp; exact HN20.out
             have u27 : (b.kind == 27) = false := by simp; exact HN27.out
             have u28 : (b.kind == 28) = false := by simp; exact HN28.out
             have u29 : (b.kind == 29) = false := by simp; exact HN29.out
             have HZN : Hid (lookP (bl.take (k + 1)) xs zR = zK) := Lib.hid (by
              unfold lookP
              rw [fold_take _ zR HBK.out]
              have := HZK.out
              unfold lookP at this
              rw [this]
              unfold look1
              rw [HZ0.out, Option.getD_some, HAX.out, HEQ.out])
             go_wp2
             go_roundw
             case rel => exact ⟨k + 1, by omega, by go_num, Lib.hid (by rw [HZN.out]; exact HTw5.out)⟩
             case measure => simp [intOf]; omega
       | none =>
        have HAX := Lib.hid hax
        have hok1 : okb = false := by rw [← HOKB.out, hax]; rfl
        subst hok1
        clear hax
        have HA4 : Hid (AxV W3 D 7 0 false) := Lib.hid ⟨heap_cell 0 _ HH3.out rfl, heap_cell 11 _ HH3.out rfl, heap_cell 25 _ HH3.out rfl, (Array.getElem?_eq_some_iff.1 HH3.out).1⟩
        have HTW4 := HTW3
        obtain ⟨W4, rfl⟩ : ∃ W : World, W = W3 := ⟨_, rfl⟩
        clear HH3 HTW3
        have b1 : W4.cell? ⟨q, k * 3 + 1, none⟩ = some (.int .i64 b.kind) := HTW4.out.ins k b HBK.out 1 _ rfl
        have b2 : W4.cell? ⟨q, k * 3 + 2, none⟩ = some (.int .i64 (b.off : Int)) := HTW4.out.ins k b HBK.out 2 _ rfl
        have hql := HTW4.out.ql HNE.out
        go_wp2_with fail
        refine (HOU.out _).mono ?_
        rintro e w5 ⟨rfl, hb5⟩
        have HTw5 := Lib.hid (HTW4.out.below hb5)
        have HAw5 := Lib.hid (HA4.out.next (But.of_below hb5) hDg)
        clear b1 b2 hql hb5 HA4 HTW4
        have b1 : w5.cell? ⟨q, k * 3 + 1, none⟩ = some (.int .i64 b.kind) := HTw5.out.ins k b HBK.out 1 _ rfl
        have b2 : w5.cell? ⟨q, k * 3 + 2, none⟩ = some (.int .i64 (b.off : Int)) := HTw5.out.ins k b HBK.out 2 _ rfl
        have hql := HTw5.out.ql HNE.out
        obtain ⟨a0, a11, a25, lD⟩ := HAw5.out
        have lg := HTw5.out.row.lt
        by_cases hk20 : b.kind = 20
        ·as_aux_lemma =>
          have HKE := Lib.hid hk20
          rw [hk20] at b1
          clear hk20
          have hcnt := othK.c20
          have hbl2 := HBL2.out
          rw [HKE.out, hcnt] at hbl2
          have hzl := HTw5.out.len
          have hln := HLN.out
          have hi2 : (2 : Int) < (ln : Int) := by omega
          have hi3 : (3 : Int) < (ln : Int) := by omega
          obtain ⟨x2, hx2⟩ : ∃ x, zK[b.off + 2]? = some x := ⟨_, List.getElem?_eq_getElem (by omega)⟩
          have HX2 := Lib.hid hx2
          clear hx2
          obtain ⟨x3, hx3⟩ : ∃ x, zK[b.off + 3]? = some x := ⟨_, List.getElem?_eq_getElem (by omega)⟩
          have HX3 := Lib.hid hx3
          clear hx3
          clear hcnt hbl2 hzl hln
          have HEQ : Hid (looksP b.kind b.off none zK = (zK.set (b.off + 2) 0).set (b.off + 3) 1) := Lib.hid (by rw [HKE.out]; unfold looksP; rw [if_pos rfl]; rfl)
          have HZN : Hid (lookP (bl.take (k + 1)) xs zR = (zK.set (b.off + 2) 0).set (b.off + 3) 1) := Lib.hid (by
           unfold lookP
           rw [fold_take _ zR HBK.out]
           have := HZK.out
           unfold lookP at this
           rw [this]
           unfold look1
           rw [HZ0.out, Option.getD_some, HAX.out, HEQ.out])
          go_upto_region 37 with (fail)
          have HSB : Hid (∀ W', But g w5 W' → W'.cell? ⟨D, 0, none⟩ = some (.int .i64 7) ∧ D < W'.heap.size) := Lib.hid (fun W' h => ⟨(h.cell D 0 HAw5.out.lt hDg).trans HAw5.out.c0, Nat.lt_of_lt_of_le HAw5.out.lt h.size⟩)
          have y2 : w5.cell? ⟨g, b.off + 2, none⟩ = some (.int .i64 x2) := HTw5.out.row.cell _ _ HX2.out
          have f2 := HTw5.out.row.free (b.off + 2)
          have y3 : w5.cell? ⟨g, b.off + 3, none⟩ = some (.int .i64 x3) := HTw5.out.row.cell _ _ HX3.out
          have f3 := HTw5.out.row.free (b.off + 3)
          refine wp_region_held_drew (S := fun W' => W'.cell? ⟨D, 0, none⟩ = some (.int .i64 7) ∧ D < W'.heap.size) (by kernel_rfl) (HSB.out _ ((But.refl g w5).drew)) (fun hHeld => ?_)
          (try simp only [Act.put, List.setIfInBounds_toArray, List.set_cons_zero, List.set_cons_succ])
          (refine takeH (i := 0) (v := ?_) rfl (by kernel_rfl) (by kernel_rfl) (by kernel_rfl) (fun _ _ _ h => h) (Or.inl ⟨by first | kernel_rfl | rfl, ?_⟩) (by assumption) ?_; rotate_left; (focus (intro w' hSw; (try dsimp only at hSw); go_simp; try (with_reducible rfl))); (try simp only [Act.put, List.setIfInBounds_toArray, List.set_cons_zero, List.set_cons_succ]))
          (refine takeH (i := 1) (v := ?_) rfl (by kernel_rfl) (by kernel_rfl) (by kernel_rfl) (fun _ _ _ h => h) (Or.inl ⟨by first | kernel_rfl | rfl, ?_⟩) (by assumption) ?_; rotate_left; (focus (intro w' hSw; (try dsimp only at hSw); go_simp; try (with_reducible rfl))); (try simp only [Act.put, List.setIfInBounds_toArray, List.set_cons_zero, List.set_cons_succ]))
          (refine takeH (i := 2) (v := ?_) rfl (by kernel_rfl) (by kernel_rfl) (by kernel_rfl) (fun _ _ _ h => h) (Or.inl ⟨by first | kernel_rfl | rfl, ?_⟩) (by assumption) ?_; rotate_left; (focus (intro w' hSw; (try dsimp only at hSw); go_simp; try (with_reducible rfl))); (try simp only [Act.put, List.setIfInBounds_toArray, List.set_cons_zero, List.set_cons_succ]))
          (refine takeH (i := 3) (v := ?_) rfl (by kernel_rfl) (by kernel_rfl) (by kernel_rfl) (fun _ _ _ h => h) (Or.inl ⟨by first | kernel_rfl | rfl, ?_⟩) (by assumption) ?_; rotate_left; (focus (intro w' hSw; (try dsimp only at hSw); go_simp; try (with_reducible rfl))); (try simp only [Act.put, List.setIfInBounds_toArray, List.set_cons_zero, List.set_cons_succ]))
          (refine takeH (i := 4) (v := undef) rfl (by kernel_rfl) (by kernel_rfl) (by kernel_rfl) (fun _ _ _ h => h) (Or.inr ⟨by first | kernel_rfl | rfl, rfl⟩) (by assumption) ?_; (try simp only [Act.put, List.setIfInBounds_toArray, List.set_cons_zero, List.set_cons_succ]))
          (refine takeH (i := 5) (v := undef) rfl (by kernel_rfl) (by kernel_rfl) (by kernel_rfl) (fun _ _ _ h => h) (Or.inr ⟨by first | kernel_rfl | rfl, rfl⟩) (by assumption) ?_; (try simp only [Act.put, List.setIfInBounds_toArray, List.set_cons_zero, List.set_cons_succ]))
          (refine takeH (i := 6) (v := undef) rfl (by kernel_rfl) (by kernel_rfl) (by kernel_rfl) (fun _ _ _ h => h) (Or.inr ⟨by first | kernel_rfl | rfl, rfl⟩) (by assumption) ?_; (try simp only [Act.put, List.setIfInBounds_toArray, List.set_cons_zero, List.set_cons_succ]))
          (refine takeH (i := 7) (v := ?_) rfl (by kernel_rfl) (by kernel_rfl) (by kernel_rfl) (fun _ _ _ h => h) (Or.inl ⟨by first | kernel_rfl | rfl, ?_⟩) (by assumption) ?_; rotate_left; (focus (intro w' hSw; (try dsimp only at hSw); go_simp; try (with_reducible rfl))); (try simp only [Act.put, List.setIfInBounds_toArray, List.set_cons_zero, List.set_cons_succ]))
          (refine takeH (i := 9) (v := ?_) rfl (by kernel_rfl) (by kernel_rfl) (by kernel_rfl) (fun _ _ _ h => h) (Or.inl ⟨by first | kernel_rfl | rfl, ?_⟩) (by assumption) ?_; rotate_left; (focus (intro w' hSw; (try dsimp only at hSw); go_simp; try (with_reducible rfl))); (try simp only [Act.put, List.setIfInBounds_toArray, List.set_cons_zero, List.set_cons_succ]))
          (refine takeH (i := 10) (v := ?_) rfl (by kernel_rfl) (by kernel_rfl) (by kernel_rfl) (fun _ _ _ h => h) (Or.inl ⟨by first | kernel_rfl | rfl, ?_⟩) (by assumption) ?_; rotate_left; (focus (intro w' hSw; (try dsimp only at hSw); go_simp; try (with_reducible rfl))); (try simp only [Act.put, List.setIfInBounds_toArray, List.set_cons_zero, List.set_cons_succ]))
          (refine takeH (i := 11) (v := ?_) rfl (by kernel_rfl) (by kernel_rfl) (by kernel_rfl) (fun _ _ _ h => h) (Or.inl ⟨by first | kernel_rfl | rfl, ?_⟩) (by assumption) ?_; rotate_left; (focus (intro w' hSw; (try dsimp only at hSw); go_simp; try (with_reducible rfl))); (try simp only [Act.put, List.setIfInBounds_toArray, List.set_cons_zero, List.set_cons_succ]))
          refine oneH (i := 8) (by kernel_rfl) rfl (fun K hK => ?_)
          go_simp
          go_at_call 46
          refine (rnum_any false _).mono ?_
          rintro e w' ⟨rfl, rfl⟩
          go_wp2_with fail
          refine hK.out _ _ (HSB.out _ ((But.refl g w5).drew)) (fun hHeld => ?_)
          clear hK K
          (try simp only [Act.put, List.setIfInBounds_toArray, List.set_cons_zero, List.set_cons_succ])
          refine oneH (i := 12) (by kernel_rfl) rfl (fun K hK => ?_)
          go_simp
          go_at_call 46
          refine (rnum_any true _).mono ?_
          rintro e w' ⟨rfl, rfl⟩
          go_wp2_with fail
          refine hK.out _ _ (HSB.out _ ((But.refl g w5).drew)) (fun hHeld => ?_)
          clear hK K
          (try simp only [Act.put, List.setIfInBounds_toArray, List.set_cons_zero, List.set_cons_succ])
          (refine takeH (i := 13) (v := ?_) rfl (by kernel_rfl) (by kernel_rfl) (by kernel_rfl) (fun _ _ _ h => h) (Or.inl ⟨by first | kernel_rfl | rfl, ?_⟩) (by assumption) ?_; rotate_left; (focus (intro w' hSw; (try dsimp only at hSw); go_simp; try (with_reducible rfl))); (try simp only [Act.put, List.setIfInBounds_toArray, List.set_cons_zero, List.set_cons_succ]))
          refine oneH (i := 14) (by kernel_rfl) rfl (fun K hK => ?_)
          go_simp
          refine hK.out _ _ (HSB.out _ (((But.refl g w5).drew).set _ _)) (fun hHeld => ?_)
          clear hK K
          (try simp only [Act.put, List.setIfInBounds_toArray, List.set_cons_zero, List.set_cons_succ])
          (refine takeH (i := 15) (v := ?_) rfl (by kernel_rfl) (by kernel_rfl) (by kernel_rfl) (fun _ _ _ h => h) (Or.inl ⟨by first | kernel_rfl | rfl, ?_⟩) (by assumption) ?_; rotate_left; (focus (intro w' hSw; (try dsimp only at hSw); go_simp; try (with_reducible rfl))); (try simp only [Act.put, List.setIfInBounds_toArray, List.set_cons_zero, List.set_cons_succ]))
          refine oneH (i := 16) (by kernel_rfl) rfl (fun K hK => ?_)
          go_simp
          refine hK.out _ _ (HSB.out _ ((((But.refl g w5).drew).set _ _).set _ _)) (fun hHeld => ?_)
          clear hK K
          (try simp only [Act.put, List.setIfInBounds_toArray, List.set_cons_zero, List.set_cons_succ])
          refine wpAnyH_done (by kernel_rfl) ?_ _
          (try simp only [Act.put, List.setIfInBounds_toArray, List.set_cons_zero, List.set_cons_succ])
          go_upto_region 28 with (fail)
          refine wp_name fun W8 hW8 => ?_
          have HT8 : Hid (RS w W8 g q n bl ((zK.set (b.off + 2) 0).set (b.off + 3) 1)) := Lib.hid (by rw [hW8.out]; exact (((HTw5.out.below (show Below w5.heap.size w5 w5.drew by (repeat' (first | with_reducible (first | exact Below.refl _ _ | assumption | refine below_drewN ?_ _ | refine Below.drew ?_ | refine below_new ?_ (Nat.le_refl _) _ | refine Below.setCell ?_ ?_ _ | refine below_go ?_ (by assumption) (Nat.le_refl _)) | (simp; done) | (simp; omega) | omega)))).put (b.off + 2) _).put (b.off + 3) _))
          clear hW8 y2 f2 y3 f3 b1 b2 hql a0 a11 a25 lD lg
          go_wp2
          go_roundw
          case rel => exact ⟨k + 1, by omega, by go_num, Lib.hid (by rw [HZN.out]; exact HT8.out)⟩
          case measure => simp [intOf]; omega
        ·have HN20 := Lib.hid hk20
         clear hk20
         by_cases hk27 : b.kind = 27
         ·as_aux_lemma =>
           have HKE := Lib.hid hk27
           rw [hk27] at b1
           clear hk27
           have hcnt := (cmdK (kind := 27) (by omega)).cnt
           have htwo := (cmdK (kind := 27) (by omega)).two
           have hbl2 := HBL2.out
           have hOK := HO.out
           rw [HKE.out] at hbl2 hOK
           rw [hcnt, hOK] at hbl2
           rw [hOK] at htwo
           have HOK27 := Lib.hid hOK
           have hzl := HTw5.out.len
           have hln := HLN.out
           obtain ⟨O2, hO2⟩ : ∃ x, x = O + 2 := ⟨_, rfl⟩
           have hw2 : IntKind.i64.wrap ((O : Int) + 2) = (O2 : Int) := by rw [IntKind.wrap_i64]; omega
           have hi2 : (2 : Int) < (ln : Int) := by omega
           have hiO : (0 : Int) ≤ (O : Int) ∧ (O : Int) < (ln : Int) := by omega
           have hiO2 : (0 : Int) ≤ (O2 : Int) ∧ (O2 : Int) < (ln : Int) := by omega
           have HO2E := Lib.hid hO2
           obtain ⟨xo, hxo⟩ : ∃ x, zK[b.off + O]? = some x := ⟨_, List.getElem?_eq_getElem (by omega)⟩
           have HXo := Lib.hid hxo
           clear hxo
           obtain ⟨xa, hxa⟩ : ∃ x, zK[b.off + O2]? = some x := ⟨_, List.getElem?_eq_getElem (by omega)⟩
           have HXa := Lib.hid hxa
           clear hxa
           obtain ⟨xv, hxv⟩ : ∃ x, zK[b.off + 2]? = some x := ⟨_, List.getElem?_eq_getElem (by omega)⟩
           have HXv := Lib.hid hxv
           clear hxv
           clear hcnt htwo hbl2 hOK hzl hO2 hln
           have HEQ : Hid (looksP b.kind b.off none zK = zK.set (b.off + O) 0) := Lib.hid (by
            rw [HKE.out]
            unfold looksP
            rw [if_neg (by decide), if_pos rfl, HOK27.out]
            rfl)
           have HZN : Hid (lookP (bl.take (k + 1)) xs zR = zK.set (b.off + O) 0) := Lib.hid (by
            unfold lookP
            rw [fold_take _ zR HBK.out]
            have := HZK.out
            unfold lookP at this
            rw [this]
            unfold look1
            rw [HZ0.out, Option.getD_some, HAX.out, HEQ.out])
           go_upto_region 39 with (fail)
           have yo : w5.cell? ⟨g, b.off + O, none⟩ = some (.int .i64 xo) := HTw5.out.row.cell _ _ HXo.out
           have fo := HTw5.out.row.free (b.off + O)
           have ya : w5.cell? ⟨g, b.off + O2, none⟩ = some (.int .i64 xa) := HTw5.out.row.cell _ _ HXa.out
           have fa := HTw5.out.row.free (b.off + O2)
           have yv : w5.cell? ⟨g, b.off + 2, none⟩ = some (.int .i64 xv) := HTw5.out.row.cell _ _ HXv.out
           have fv := HTw5.out.row.free (b.off + 2)
           refine wp_region_ext_tail 21 (by kernel_rfl) (by kernel_rfl) ?_
           simp only [List.take_succ_cons, List.take_zero, List.drop_succ_cons, List.drop_zero]
           repeat (go_big_quiet_step ((go_at_call 46; with_reducible exact ext_same (rnum_any false _))))
           refine wpQuiet_nil ?_
           intro w6 hb6
           replace hb6 := ext_below hb6
           have HTw6 := Lib.hid (HTw5.out.below hb6)
           clear yo fo ya fa yv fv hb6 b1 b2 hql a0 a11 a25 lD lg
           have yo : w6.cell? ⟨g, b.off + O, none⟩ = some (.int .i64 xo) := HTw6.out.row.cell _ _ HXo.out
           have fo := HTw6.out.row.free (b.off + O)
           have lg := HTw6.out.row.lt
           go_upto_region 28 with (fail)
           refine wp_name fun W8 hW8 => ?_
           have HT8 : Hid (RS w W8 g q n bl (zK.set (b.off + O) 0)) := Lib.hid (by rw [hW8.out]; exact (HTw6.out.put (b.off + O) _))
           clear hW8 yo fo lg
           go_wp2
           go_roundw
           case rel => exact ⟨k + 1, by omega, by go_num, Lib.hid (by rw [HZN.out]; exact HT8.out)⟩
           case measure => simp [intOf]; omega
         ·have HN27 := Lib.hid hk27
          clear hk27
          by_cases hk28 : b.kind = 28
          ·as_aux_lemma =>
            have HKE := Lib.hid hk28
            rw [hk28] at b1
            clear hk28
            have hcnt := (cmdK (kind := 28) (by omega)).cnt
            have htwo := (cmdK (kind := 28) (by omega)).two
            have hbl2 := HBL2.out
            have hOK := HO.out
            rw [HKE.out] at hbl2 hOK
            rw [hcnt, hOK] at hbl2
            rw [hOK] at htwo
            have HOK27 := Lib.hid hOK
            have hzl := HTw5.out.len
            have hln := HLN.out
            obtain ⟨O2, hO2⟩ : ∃ x, x = O + 2 := ⟨_, rfl⟩
            have hw2 : IntKind.i64.wrap ((O : Int) + 2) = (O2 : Int) := by rw [IntKind.wrap_i64]; omega
            have hi2 : (2 : Int) < (ln : Int) := by omega
            have hiO : (0 : Int) ≤ (O : Int) ∧ (O : Int) < (ln : Int) := by omega
            have hiO2 : (0 : Int) ≤ (O2 : Int) ∧ (O2 : Int) < (ln : Int) := by omega
            have HO2E := Lib.hid hO2
            obtain ⟨xo, hxo⟩ : ∃ x, zK[b.off + O]? = some x := ⟨_, List.getElem?_eq_getElem (by omega)⟩
            have HXo := Lib.hid hxo
            clear hxo
            obtain ⟨xa, hxa⟩ : ∃ x, zK[b.off + O2]? = some x := ⟨_, List.getElem?_eq_getElem (by omega)⟩
            have HXa := Lib.hid hxa
            clear hxa
            obtain ⟨xv, hxv⟩ : ∃ x, zK[b.off + 2]? = some x := ⟨_, List.getElem?_eq_getElem (by omega)⟩
            have HXv := Lib.hid hxv
            clear hxv
            clear hcnt htwo hbl2 hOK hzl hO2 hln
            have HEQ : Hid (looksP b.kind b.off none zK = zK.set (b.off + O) 0) := Lib.hid (by
             rw [HKE.out]
             unfold looksP
             rw [if_neg (by decide), if_neg (by decide), if_pos rfl, HOK27.out]
             rfl)
            have HZN : Hid (lookP (bl.take (k + 1)) xs zR = zK.set (b.off + O) 0) := Lib.hid (by
             unfold lookP
             rw [fold_take _ zR HBK.out]
             have := HZK.out
             unfold lookP at this
             rw [this]
             unfold look1
             rw [HZ0.out, Option.getD_some, HAX.out, HEQ.out])
            have yo : w5.cell? ⟨g, b.off + O, none⟩ = some (.int .i64 xo) := HTw5.out.row.cell _ _ HXo.out
            have fo := HTw5.out.row.free (b.off + O)
            have ya : w5.cell? ⟨g, b.off + O2, none⟩ = some (.int .i64 xa) := HTw5.out.row.cell _ _ HXa.out
            have fa := HTw5.out.row.free (b.off + O2)
            have yv : w5.cell? ⟨g, b.off + 2, none⟩ = some (.int .i64 xv) := HTw5.out.row.cell _ _ HXv.out
            have fv := HTw5.out.row.free (b.off + 2)
            go_wp2_with fail
            refine (rnum_any false _).mono ?_
            rintro e w6 ⟨rfl, rfl⟩
            go_upto_region 28 with (fail)
            refine wp_name fun W8 hW8 => ?_
            have HT8 : Hid (RS w W8 g q n bl (zK.set (b.off + O) 0)) := Lib.hid (by rw [hW8.out]; exact (HTw5.out.put (b.off + O) _))
            clear hW8 yo fo ya fa yv fv b1 b2 hql a0 a11 a25 lD lg
            go_wp2
            go_roundw
            case rel => exact ⟨k + 1, by omega, by go_num, Lib.hid (by rw [HZN.out]; exact HT8.out)⟩
            case measure => simp [intOf]; omega
          ·have HN28 := Lib.hid hk28
           clear hk28
           by_cases hk29 : b.kind = 29
           ·as_aux_lemma =>
             have HKE := Lib.hid hk29
             rw [hk29] at b1
             clear hk29
             have hcnt := othK.c29
             have hbl2 := HBL2.out
             rw [HKE.out, hcnt] at hbl2
             have hzl := HTw5.out.len
             have hln := HLN.out
             have hi2 : (2 : Int) < (ln : Int) := by omega
             have hi3 : (3 : Int) < (ln : Int) := by omega
             have hi4 : (4 : Int) < (ln : Int) := by omega
             obtain ⟨x2, hx2⟩ : ∃ x, zK[b.off + 2]? = some x := ⟨_, List.getElem?_eq_getElem (by omega)⟩
             have HX2 := Lib.hid hx2
             clear hx2
             obtain ⟨x3, hx3⟩ : ∃ x, zK[b.off + 3]? = some x := ⟨_, List.getElem?_eq_getElem (by omega)⟩
             have HX3 := Lib.hid hx3
             clear hx3
             obtain ⟨x4, hx4⟩ : ∃ x, zK[b.off + 4]? = some x := ⟨_, List.getElem?_eq_getElem (by omega)⟩
             have HX4 := Lib.hid hx4
             clear hx4
             clear hcnt hbl2 hzl hln
             have y4 : w5.cell? ⟨g, b.off + 4, none⟩ = some (.int .i64 x4) := HTw5.out.row.cell _ _ HX4.out
             by_cases h2 : x4 = 2
             ·have u2 : (x4 == 2) = true := by simp [h2]
              have H2 := Lib.hid h2
              clear h2
              have HEQ : Hid (looksP b.kind b.off none zK = ((zK.set (b.off + 2) 0).set (b.off + 3) 1).set (b.off + 4) 1) := Lib.hid (by rw [HKE.out]; unfold looksP; rw [if_neg (by decide), if_neg (by decide), if_neg (by decide), if_pos rfl, HX4.out, Option.getD_some]; rw [if_pos H2.out]; rfl)
              have HZN : Hid (lookP (bl.take (k + 1)) xs zR = ((zK.set (b.off + 2) 0).set (b.off + 3) 1).set (b.off + 4) 1) := Lib.hid (by
               unfold lookP
               rw [fold_take _ zR HBK.out]
               have := HZK.out
               unfold lookP at this
               rw [this]
               unfold look1
               rw [HZ0.out, Option.getD_some, HAX.out, HEQ.out])
              go_upto_region 44 with (fail)
              clear y4
              have HSB : Hid (∀ W', But g w5 W' → W'.cell? ⟨D, 0, none⟩ = some (.int .i64 7) ∧ D < W'.heap.size) := Lib.hid (fun W' h => ⟨(h.cell D 0 HAw5.out.lt hDg).trans HAw5.out.c0, Nat.lt_of_lt_of_le HAw5.out.lt h.size⟩)
              have y2 : w5.cell? ⟨g, b.off + 2, none⟩ = some (.int .i64 x2) := HTw5.out.row.cell _ _ HX2.out
              have f2 := HTw5.out.row.free (b.off + 2)
              have y3 : w5.cell? ⟨g, b.off + 3, none⟩ = some (.int .i64 x3) := HTw5.out.row.cell _ _ HX3.out
              have f3 := HTw5.out.row.free (b.off + 3)
              have y4 : w5.cell? ⟨g, b.off + 4, none⟩ = some (.int .i64 x4) := HTw5.out.row.cell _ _ HX4.out
              have f4 := HTw5.out.row.free (b.off + 4)
              refine wp_region_held_drew (S := fun W' => W'.cell? ⟨D, 0, none⟩ = some (.int .i64 7) ∧ D < W'.heap.size) (by kernel_rfl) (HSB.out _ ((But.refl g w5).drew)) (fun hHeld => ?_)
              (try simp only [Act.put, List.setIfInBounds_toArray, List.set_cons_zero, List.set_cons_succ])
              (refine takeH (i := 0) (v := ?_) rfl (by kernel_rfl) (by kernel_rfl) (by kernel_rfl) (fun _ _ _ h => h) (Or.inl ⟨by first | kernel_rfl | rfl, ?_⟩) (by assumption) ?_; rotate_left; (focus (intro w' hSw; (try dsimp only at hSw); go_simp; try (with_reducible rfl))); (try simp only [Act.put, List.setIfInBounds_toArray, List.set_cons_zero, List.set_cons_succ]))
              (refine takeH (i := 1) (v := ?_) rfl (by kernel_rfl) (by kernel_rfl) (by kernel_rfl) (fun _ _ _ h => h) (Or.inl ⟨by first | kernel_rfl | rfl, ?_⟩) (by assumption) ?_; rotate_left; (focus (intro w' hSw; (try dsimp only at hSw); go_simp; try (with_reducible rfl))); (try simp only [Act.put, List.setIfInBounds_toArray, List.set_cons_zero, List.set_cons_succ]))
              (refine takeH (i := 2) (v := ?_) rfl (by kernel_rfl) (by kernel_rfl) (by kernel_rfl) (fun _ _ _ h => h) (Or.inl ⟨by first | kernel_rfl | rfl, ?_⟩) (by assumption) ?_; rotate_left; (focus (intro w' hSw; (try dsimp only at hSw); go_simp; try (with_reducible rfl))); (try simp only [Act.put, List.setIfInBounds_toArray, List.set_cons_zero, List.set_cons_succ]))
              (refine takeH (i := 3) (v := ?_) rfl (by kernel_rfl) (by kernel_rfl) (by kernel_rfl) (fun _ _ _ h => h) (Or.inl ⟨by first | kernel_rfl | rfl, ?_⟩) (by assumption) ?_; rotate_left; (focus (intro w' hSw; (try dsimp only at hSw); go_simp; try (with_reducible rfl))); (try simp only [Act.put, List.setIfInBounds_toArray, List.set_cons_zero, List.set_cons_succ]))
              (refine takeH (i := 4) (v := ?_) rfl (by kernel_rfl) (by kernel_rfl) (by kernel_rfl) (fun _ _ _ h => h) (Or.inl ⟨by first | kernel_rfl | rfl, ?_⟩) (by assumption) ?_; rotate_left; (focus (intro w' hSw; (try dsimp only at hSw); go_simp; try (with_reducible rfl))); (try simp only [Act.put, List.setIfInBounds_toArray, List.set_cons_zero, List.set_cons_succ]))
              (refine takeH (i := 5) (v := ?_) rfl (by kernel_rfl) (by kernel_rfl) (by kernel_rfl) (fun _ _ _ h => h) (Or.inl ⟨by first | kernel_rfl | rfl, ?_⟩) (by assumption) ?_; rotate_left; (focus (intro w' hSw; (try dsimp only at hSw); go_simp; try (with_reducible rfl))); (try simp only [Act.put, List.setIfInBounds_toArray, List.set_cons_zero, List.set_cons_succ]))
              (refine takeH (i := 7) (v := ?_) rfl (by kernel_rfl) (by kernel_rfl) (by kernel_rfl) (fun _ _ _ h => h) (Or.inl ⟨by first | kernel_rfl | rfl, ?_⟩) (by assumption) ?_; rotate_left; (focus (intro w' hSw; (try dsimp only at hSw); go_simp; try (with_reducible rfl))); (try simp only [Act.put, List.setIfInBounds_toArray, List.set_cons_zero, List.set_cons_succ]))
              (refine takeH (i := 8) (v := ?_) rfl (by kernel_rfl) (by kernel_rfl) (by kernel_rfl) (fun _ _ _ h => h) (Or.inl ⟨by first | kernel_rfl | rfl, ?_⟩) (by assumption) ?_; rotate_left; (focus (intro w' hSw; (try dsimp only at hSw); go_simp; try (with_reducible rfl))); (try simp only [Act.put, List.setIfInBounds_toArray, List.set_cons_zero, List.set_cons_succ]))
              (refine takeH (i := 9) (v := ?_) rfl (by kernel_rfl) (by kernel_rfl) (by kernel_rfl) (fun _ _ _ h => h) (Or.inl ⟨by first | kernel_rfl | rfl, ?_⟩) (by assumption) ?_; rotate_left; (focus (intro w' hSw; (try dsimp only at hSw); go_simp; try (with_reducible rfl))); (try simp only [Act.put, List.setIfInBounds_toArray, List.set_cons_zero, List.set_cons_succ]))
              refine oneH (i := 6) (by kernel_rfl) rfl (fun K hK => ?_)
              go_simp
              go_at_call 46
              refine (rnum_any false _).mono ?_
              rintro e w' ⟨rfl, rfl⟩
              go_wp2_with fail
              refine hK.out _ _ (HSB.out _ ((But.refl g w5).drew)) (fun hHeld => ?_)
              clear hK K
              (try simp only [Act.put, List.setIfInBounds_toArray, List.set_cons_zero, List.set_cons_succ])
              refine oneH (i := 10) (by kernel_rfl) rfl (fun K hK => ?_)
              go_simp
              go_at_call 46
              refine (rnum_any true _).mono ?_
              rintro e w' ⟨rfl, rfl⟩
              go_wp2_with fail
              refine hK.out _ _ (HSB.out _ ((But.refl g w5).drew)) (fun hHeld => ?_)
              clear hK K
              (try simp only [Act.put, List.setIfInBounds_toArray, List.set_cons_zero, List.set_cons_succ])
              (refine takeH (i := 11) (v := ?_) rfl (by kernel_rfl) (by kernel_rfl) (by kernel_rfl) (fun _ _ _ h => h) (Or.inl ⟨by first | kernel_rfl | rfl, ?_⟩) (by assumption) ?_; rotate_left; (focus (intro w' hSw; (try dsimp only at hSw); go_simp; try (with_reducible rfl))); (try simp only [Act.put, List.setIfInBounds_toArray, List.set_cons_zero, List.set_cons_succ]))
              refine oneH (i := 12) (by kernel_rfl) rfl (fun K hK => ?_)
              go_simp
              refine hK.out _ _ (HSB.out _ (((But.refl g w5).drew).set _ _)) (fun hHeld => ?_)
              clear hK K
              (try simp only [Act.put, List.setIfInBounds_toArray, List.set_cons_zero, List.set_cons_succ])
              (refine takeH (i := 13) (v := ?_) rfl (by kernel_rfl) (by kernel_rfl) (by kernel_rfl) (fun _ _ _ h => h) (Or.inl ⟨by first | kernel_rfl | rfl, ?_⟩) (by assumption) ?_; rotate_left; (focus (intro w' hSw; (try dsimp only at hSw); go_simp; try (with_reducible rfl))); (try simp only [Act.put, List.setIfInBounds_toArray, List.set_cons_zero, List.set_cons_succ]))
              refine oneH (i := 14) (by kernel_rfl) rfl (fun K hK => ?_)
              go_simp
              refine hK.out _ _ (HSB.out _ ((((But.refl g w5).drew).set _ _).set _ _)) (fun hHeld => ?_)
              clear hK K
              (try simp only [Act.put, List.setIfInBounds_toArray, List.set_cons_zero, List.set_cons_succ])
              (refine takeH (i := 15) (v := ?_) rfl (by kernel_rfl) (by kernel_rfl) (by kernel_rfl) (fun _ _ _ h => h) (Or.inl ⟨by first | kernel_rfl | rfl, ?_⟩) (by assumption) ?_; rotate_left; (focus (intro w' hSw; (try dsimp only at hSw); go_simp; try (with_reducible rfl))); (try simp only [Act.put, List.setIfInBounds_toArray, List.set_cons_zero, List.set_cons_succ]))
              refine oneH (i := 16) (by kernel_rfl) rfl (fun K hK => ?_)
              go_simp
              refine hK.out _ _ (HSB.out _ (((((But.refl g w5).drew).set _ _).set _ _).set _ _)) (fun hHeld => ?_)
              clear hK K
              (try simp only [Act.put, List.setIfInBounds_toArray, List.set_cons_zero, List.set_cons_succ])
              refine wpAnyH_done (by kernel_rfl) ?_ _
              (try simp only [Act.put, List.setIfInBounds_toArray, List.set_cons_zero, List.set_cons_succ])
              go_upto_region 28 with (fail)
              refine wp_name fun W8 hW8 => ?_
              have HT8 : Hid (RS w W8 g q n bl (((zK.set (b.off + 2) 0).set (b.off + 3) 1).set (b.off + 4) 1)) := Lib.hid (by rw [hW8.out]; exact ((((HTw5.out.below (show Below w5.heap.size w5 w5.drew by (repeat' (first | with_reducible (first | exact Below.refl _ _ | assumption | refine below_drewN ?_ _ | refine Below.drew ?_ | refine below_new ?_ (Nat.le_refl _) _ | refine Below.setCell ?_ ?_ _ | refine below_go ?_ (by assumption) (Nat.le_refl _)) | (simp; done) | (simp; omega) | omega)))).put (b.off + 2) _).put (b.off + 3) _).put (b.off + 4) _))
              clear hW8 y2 f2 y3 f3 y4 f4 b1 b2 hql a0 a11 a25 lD lg
              go_wp2
              go_roundw
              case rel => exact ⟨k + 1, by omega, by go_num, Lib.hid (by rw [HZN.out]; exact HT8.out)⟩
              case measure => simp [intOf]; omega
             ·have u2 : (x4 == 2) = false := by simp [h2]
              have H2 := Lib.hid h2
              have HEQ : Hid (looksP b.kind b.off none zK = zK) := Lib.hid (by rw [HKE.out]; unfold looksP; rw [if_neg (by decide), if_neg (by decide), if_neg (by decide), if_pos rfl, HX4.out, Option.getD_some]; exact if_neg H2.out)
              have HZN : Hid (lookP (bl.take (k + 1)) xs zR = zK) := Lib.hid (by
               unfold lookP
               rw [fold_take _ zR HBK.out]
               have := HZK.out
               unfold lookP at this
               rw [this]
               unfold look1
               rw [HZ0.out, Option.getD_some, HAX.out, HEQ.out])
              clear h2
              go_wp2
              go_roundw
              case rel => exact ⟨k + 1, by omega, by go_num, Lib.hid (by rw [HZN.out]; exact HTw5.out)⟩
              case measure => simp [intOf]; omega
           ·have HN29 := Lib.hid hk29
            clear hk29
            as_aux_lemma =>
             have HEQ : Hid (looksP b.kind b.off none zK = zK) := Lib.hid (by unfold looksP; rw [if_neg HN20.out, if_neg HN27.out, if_neg HN28.out, if_neg HN29.out])
             have u20 : (b.kind == 20) = false := by simp; exact HN20.out
             have u27 : (b.kind == 27) = false := by simp; exact HN27.out
             have u28 : (b.kind == 28) = false := by simp; exact HN28.out
             have u29 : (b.kind == 29) = false := by simp; exact HN29.out
             have HZN : Hid (lookP (bl.take (k + 1)) xs zR = zK) := Lib.hid (by
              unfold lookP
              rw [fold_take _ zR HBK.out]
              have := HZK.out
              unfold lookP at this
              rw [this]
              unfold look1
              rw [HZ0.out, Option.getD_some, HAX.out, HEQ.out])
             go_wp2
             go_roundw
             case rel => exact ⟨k + 1, by omega, by go_num, Lib.hid (by rw [HZN.out]; exact HTw5.out)⟩
             case measure => simp [intOf]; omega
     ·as_aux_lemma =>
       obtain rfl : k = nbk := by omega
       have HTE : Hid (RS w wr g q n bl (lookP bl xs zR)) := Lib.hid (by have h := HTK.out; rw [← HZK.out, List.take_of_length_le (by rw [HNB.out]; exact Nat.le_refl _)] at h; exact h)
       clear HTK HZK
       have HRR2 : Hid (RowN wr A1 RES k1) := Lib.hid (by
        have h1 := HTE.out
        rw [← HRES.out, if_pos HSN.out]
        show RowN wr A1 (lookP bl xs (repssP bl ll zs)) k1
        rw [HZR.out]
        refine ⟨by rw [h1.len]; omega, by omega, fun i z hz => ?_⟩
        have hi := (List.getElem?_eq_some_iff.1 hz).1
        exact ⟨g, 0, HG1.out (by rw [h1.len] at hi; omega), h1.row.lt, by rw [Nat.zero_add]; exact h1.row.cell _ _ hz⟩)
       have HBE := Lib.hid (HTE.out.old)
       clear HTE
       go_wp2
       go_ret
       exact ⟨⟨_, rfl, _, _, rfl, HRR2.out⟩, HBE.out⟩
 ·have usn : ((n : Int) != (sm : Int)) = true := by simp; omega
  have HRR2 : Hid (RowN w2 A1 RES k1) := Lib.hid (by rw [← HRES.out, if_neg hsn]; exact (rowN_of HO2.out).1)
  clear hsn
  go_wp2
  go_ret
  exact ⟨⟨_, rfl, _, _, rfl, HRR2.out⟩, HB2.out⟩

end Go.Proofs.YtpgkebfdfhdliaaDoor
