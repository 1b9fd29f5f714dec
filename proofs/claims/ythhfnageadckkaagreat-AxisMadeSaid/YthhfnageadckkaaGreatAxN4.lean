/- Layer 15: may a command be taken: kind 2. PRINTED by wip/tool/mkfitsw.py -/
import Derived.Test.YthhfnageadckkaaGreatAxN1
namespace Go.Proofs.YthhfnageadckkaaGreat
open Go.RowKit
set_option linter.unusedVariables false
set_option linter.unusedSimpArgs false
attribute [local go_sem] ite_max ite_min vite_max vite_min ext_cell ext_frozen

set_option maxRecDepth 100000 in
set_option maxHeartbeats 2000000 in
theorem afits_2 (s : WS) (c : CmdS) (K : Nat) (rv : Value) (W : World) (h : WK W K s rv) (hc : CmdW c) (hk : c.kind = 2) :
  Calls Tryz.prog 64 #[.pointer (some ⟨K, 0, none⟩), c.val] W fun x w' => x = .returned (.tuple #[(fitsC s.a c).c.val, .bool (fitsC s.a c).ok]) ∧ Below W.heap.size W w' := by
 have HW := Lib.hid h
 have lK := h.lt
 obtain ⟨x, q, hu⟩ : ∃ x q, underX s.a = ⟨x, q⟩ := ⟨_, _, rfl⟩
 have HU := Lib.hid hu
 obtain ⟨bad, hbad⟩ : ∃ b, decide (c.mode ≠ 0 ∧ (moveC c = false ∨ (underX s.a).ok = true ∧ moveC (underX s.a).x = false)) = b := ⟨_, rfl⟩
 rw [hu] at hbad
 have HBD := Lib.hid hbad
 have HF0 : Hid (fitsC s.a c = if bad = true then ⟨c, false⟩ else fitsK s.a c) := Lib.hid (by
  rw [← hbad]
  unfold fitsC fitsK
  rw [hu]
  simp only [decide_eq_true_eq])
 show Calls Tryz.prog 64 #[.pointer (some ⟨K, 0, none⟩), .agg #[.int .i64 c.id, .int .i64 c.kind, .int .i64 c.target, .int .i64 c.speed, .int .i64 c.mode, .int .i64 c.num, .int .i64 c.den]] W _
 have HCW := Lib.hid hc
 have HK := Lib.hid hk
 clear hk
 clear h hu hbad hc
 go_enter Tryz.func64, Tryz.ntmps64
 go_upto_region 1 with (fail)
 refine wp_name fun W1 hW => ?_
 obtain ⟨B, hB⟩ : ∃ B, B = W.heap.size := ⟨_, rfl⟩
 have hbel : Below W.heap.size W W1 := by rw [hW.out]; exact belowBy
 have hsz : W1.heap.size = B + 2 := by rw [hW.out, hB]; simp
 have e0 : W1.cell? ⟨B, 0, none⟩ = some (.int .i64 c.id) := by rw [hW.out, hB]; go_simp
 have e1 : W1.cell? ⟨B, 1, none⟩ = some (.int .i64 c.kind) := by rw [hW.out, hB]; go_simp
 have e2 : W1.cell? ⟨B, 2, none⟩ = some (.int .i64 c.target) := by rw [hW.out, hB]; go_simp
 have e3 : W1.cell? ⟨B, 3, none⟩ = some (.int .i64 c.speed) := by rw [hW.out, hB]; go_simp
 have e4 : W1.cell? ⟨B, 4, none⟩ = some (.int .i64 c.mode) := by rw [hW.out, hB]; go_simp
 have e5 : W1.cell? ⟨B, 5, none⟩ = some (.int .i64 c.num) := by rw [hW.out, hB]; go_simp
 have e6 : W1.cell? ⟨B, 6, none⟩ = some (.int .i64 c.den) := by rw [hW.out, hB]; go_simp
 have z0 : W1.cell? ⟨B + 1, 0, none⟩ = some (.int .i64 0) := by rw [hW.out, hB]; go_simp
 have z1 : W1.cell? ⟨B + 1, 1, none⟩ = some (.int .i64 0) := by rw [hW.out, hB]; go_simp
 have z2 : W1.cell? ⟨B + 1, 2, none⟩ = some (.int .i64 0) := by rw [hW.out, hB]; go_simp
 have z3 : W1.cell? ⟨B + 1, 3, none⟩ = some (.int .i64 0) := by rw [hW.out, hB]; go_simp
 have z4 : W1.cell? ⟨B + 1, 4, none⟩ = some (.int .i64 0) := by rw [hW.out, hB]; go_simp
 have z5 : W1.cell? ⟨B + 1, 5, none⟩ = some (.int .i64 0) := by rw [hW.out, hB]; go_simp
 have z6 : W1.cell? ⟨B + 1, 6, none⟩ = some (.int .i64 0) := by rw [hW.out, hB]; go_simp
 have zf : ∀ o, W1.frozen? ⟨B + 1, o, none⟩ = false := fun o => by rw [hW.out, hB]; go_simp
 have yf : ∀ o, W1.frozen? ⟨B, o, none⟩ = false := fun o => by rw [hW.out, hB]; go_simp
 have hlB : B < W1.heap.size := by omega
 have hlR : B + 1 < W1.heap.size := by omega
 have HBW : Hid (W.heap.size ≤ B) := Lib.hid (by omega)
 have HB := Lib.hid hbel
 obtain ⟨sv, nv, wv, cv, hp⟩ := HW.out.below hbel
 have HP1 := Lib.hid hp
 (try rw [← hB])
 clear hW hB hbel hp lK hsz
 go_wp2_with fail
 refine (aunder_at s ⟨x, q⟩ K rv _ ⟨_, _, _, _, HP1.out⟩ HU.out).mono ?_
 simp only [CmdS.val]
 rintro e w2 ⟨rfl, hb2⟩
 have HB2 := Lib.hid hb2
 clear hb2
 go_upto_region 2 with (fail)
 refine wp_name fun W3 hW => ?_
 obtain ⟨U, hB⟩ : ∃ B, B = w2.heap.size := ⟨_, rfl⟩
 have hbel : Below w2.heap.size w2 W3 := by rw [hW.out]; exact belowBy
 have hlU : U < W3.heap.size := by rw [hW.out, hB]; simp
 have x0 : W3.cell? ⟨U, 0, none⟩ = some (.int .i64 x.id) := by rw [hW.out, hB]; go_simp
 have x1 : W3.cell? ⟨U, 1, none⟩ = some (.int .i64 x.kind) := by rw [hW.out, hB]; go_simp
 have x2 : W3.cell? ⟨U, 2, none⟩ = some (.int .i64 x.target) := by rw [hW.out, hB]; go_simp
 have x3 : W3.cell? ⟨U, 3, none⟩ = some (.int .i64 x.speed) := by rw [hW.out, hB]; go_simp
 have x4 : W3.cell? ⟨U, 4, none⟩ = some (.int .i64 x.mode) := by rw [hW.out, hB]; go_simp
 have x5 : W3.cell? ⟨U, 5, none⟩ = some (.int .i64 x.num) := by rw [hW.out, hB]; go_simp
 have x6 : W3.cell? ⟨U, 6, none⟩ = some (.int .i64 x.den) := by rw [hW.out, hB]; go_simp
 have hba : Below W1.heap.size W1 W3 := HB2.out.trans (hbel.mono HB2.out.size)
 have b0 := (hba.cell (p := ⟨B, 0, none⟩) hlB).trans e0
 have b1 := (hba.cell (p := ⟨B, 1, none⟩) hlB).trans e1
 have b2 := (hba.cell (p := ⟨B, 2, none⟩) hlB).trans e2
 have b3 := (hba.cell (p := ⟨B, 3, none⟩) hlB).trans e3
 have b4 := (hba.cell (p := ⟨B, 4, none⟩) hlB).trans e4
 have b5 := (hba.cell (p := ⟨B, 5, none⟩) hlB).trans e5
 have b6 := (hba.cell (p := ⟨B, 6, none⟩) hlB).trans e6
 have r0 := (hba.cell (p := ⟨(B + 1), 0, none⟩) hlR).trans z0
 have r1 := (hba.cell (p := ⟨(B + 1), 1, none⟩) hlR).trans z1
 have r2 := (hba.cell (p := ⟨(B + 1), 2, none⟩) hlR).trans z2
 have r3 := (hba.cell (p := ⟨(B + 1), 3, none⟩) hlR).trans z3
 have r4 := (hba.cell (p := ⟨(B + 1), 4, none⟩) hlR).trans z4
 have r5 := (hba.cell (p := ⟨(B + 1), 5, none⟩) hlR).trans z5
 have r6 := (hba.cell (p := ⟨(B + 1), 6, none⟩) hlR).trans z6
 have rf : ∀ o, W3.frozen? ⟨B + 1, o, none⟩ = false := fun o => (hba.frozen (p := ⟨B + 1, o, none⟩) hlR).trans (zf o)
 have bf : ∀ o, W3.frozen? ⟨B, o, none⟩ = false := fun o => (hba.frozen (p := ⟨B, o, none⟩) hlB).trans (yf o)
 have HP3 := Lib.hid (HP1.out.below hba)
 have HB3 := Lib.hid (HB.out.trans (hba.mono HB.out.size))
 have lB := Nat.lt_of_lt_of_le hlB hba.size
 have lR := Nat.lt_of_lt_of_le hlR hba.size
 have hp3 := HP3.out
 (try rw [← hB])
 (try simp only [Act.put])
 clear hW hB hbel hba hlB hlR HB HB2 HP1 e0 e1 e2 e3 e4 e5 e6 z0 z1 z2 z3 z4 z5 z6 zf yf
 have c_st := hp3.cell 0 _ rfl
 have lK := hp3.lt
 have fK := hp3.froz
 clear hp3
 go_upto_region 3 with (fail)
 go_cut [37] from 22 to 37 (fun r wx => r = .bool bad ∧ Hid (Below W3.heap.size W3 wx))
 case first =>
  by_cases m0 : c.mode = 0
  ·have HE : Hid (bad = false) := Lib.hid (by rw [← HBD.out]; simp [m0])
   have u1 : (c.mode != 0) = false := by simp [m0]
   clear m0
   go_wp2_with fail
   go_meet
   case rel => exact ⟨by rw [HE.out], Lib.hid (Below.refl _ _)⟩
  ·have u1 : (c.mode != 0) = true := by simp [m0]
   cases hm : moveC c
   ·have HE : Hid (bad = true) := Lib.hid (by rw [← HBD.out, hm]; simp [m0])
    have HM := Lib.hid hm
    clear hm m0
    go_wp2_with fail
    refine (amove_at c false _ HM.out).mono ?_
    rintro e w6 ⟨rfl, hb6⟩
    have HB6 := Lib.hid hb6
    clear hb6
    go_wp2_with fail
    go_meet
    case rel => exact ⟨by rw [HE.out], HB6⟩
   ·cases q
    ·have HE : Hid (bad = false) := Lib.hid (by rw [← HBD.out, hm]; simp)
     have HM := Lib.hid hm
     clear hm m0
     go_wp2_with fail
     refine (amove_at c true _ HM.out).mono ?_
     rintro e w6 ⟨rfl, hb6⟩
     have HB6 := Lib.hid hb6
     clear hb6
     go_wp2_with fail
     go_meet
     case rel => exact ⟨by rw [HE.out], HB6⟩
    ·cases hn : moveC x
     ·have HE : Hid (bad = true) := Lib.hid (by rw [← HBD.out, hm, hn]; simp [m0])
      have HM := Lib.hid hm
      have HN := Lib.hid hn
      clear hm hn m0
      go_wp2_with fail
      refine (amove_at c true _ HM.out).mono ?_
      rintro e w6 ⟨rfl, hb6⟩
      have HB6 := Lib.hid hb6
      have x0 := (hb6.cell (p := ⟨U, 0, none⟩) hlU).trans x0
      have x1 := (hb6.cell (p := ⟨U, 1, none⟩) hlU).trans x1
      have x2 := (hb6.cell (p := ⟨U, 2, none⟩) hlU).trans x2
      have x3 := (hb6.cell (p := ⟨U, 3, none⟩) hlU).trans x3
      have x4 := (hb6.cell (p := ⟨U, 4, none⟩) hlU).trans x4
      have x5 := (hb6.cell (p := ⟨U, 5, none⟩) hlU).trans x5
      have x6 := (hb6.cell (p := ⟨U, 6, none⟩) hlU).trans x6
      have lU6 := Nat.lt_of_lt_of_le hlU hb6.size
      clear hb6
      go_wp2_with fail
      refine (amove_at x false _ HN.out).mono ?_
      rintro e w7 ⟨rfl, hb7⟩
      have HB7 := Lib.hid (HB6.out.trans (hb7.mono HB6.out.size))
      clear hb7
      go_wp2_with fail
      go_meet
      case rel => exact ⟨by rw [HE.out], HB7⟩
     ·have HE : Hid (bad = false) := Lib.hid (by rw [← HBD.out, hm, hn]; simp)
      have HM := Lib.hid hm
      have HN := Lib.hid hn
      clear hm hn m0
      go_wp2_with fail
      refine (amove_at c true _ HM.out).mono ?_
      rintro e w6 ⟨rfl, hb6⟩
      have HB6 := Lib.hid hb6
      have x0 := (hb6.cell (p := ⟨U, 0, none⟩) hlU).trans x0
      have x1 := (hb6.cell (p := ⟨U, 1, none⟩) hlU).trans x1
      have x2 := (hb6.cell (p := ⟨U, 2, none⟩) hlU).trans x2
      have x3 := (hb6.cell (p := ⟨U, 3, none⟩) hlU).trans x3
      have x4 := (hb6.cell (p := ⟨U, 4, none⟩) hlU).trans x4
      have x5 := (hb6.cell (p := ⟨U, 5, none⟩) hlU).trans x5
      have x6 := (hb6.cell (p := ⟨U, 6, none⟩) hlU).trans x6
      have lU6 := Nat.lt_of_lt_of_le hlU hb6.size
      clear hb6
      go_wp2_with fail
      refine (amove_at x true _ HN.out).mono ?_
      rintro e w7 ⟨rfl, hb7⟩
      have HB7 := Lib.hid (HB6.out.trans (hb7.mono HB6.out.size))
      clear hb7
      go_wp2_with fail
      go_meet
      case rel => exact ⟨by rw [HE.out], HB7⟩
 case rest =>
  obtain ⟨rfl, HC⟩ := hcut
  have d0 := (HC.out.cell (p := ⟨B, 0, none⟩) lB).trans b0
  have d1 := (HC.out.cell (p := ⟨B, 1, none⟩) lB).trans b1
  have d2 := (HC.out.cell (p := ⟨B, 2, none⟩) lB).trans b2
  have d3 := (HC.out.cell (p := ⟨B, 3, none⟩) lB).trans b3
  have d4 := (HC.out.cell (p := ⟨B, 4, none⟩) lB).trans b4
  have d5 := (HC.out.cell (p := ⟨B, 5, none⟩) lB).trans b5
  have d6 := (HC.out.cell (p := ⟨B, 6, none⟩) lB).trans b6
  have s0 := (HC.out.cell (p := ⟨(B + 1), 0, none⟩) lR).trans r0
  have s1 := (HC.out.cell (p := ⟨(B + 1), 1, none⟩) lR).trans r1
  have s2 := (HC.out.cell (p := ⟨(B + 1), 2, none⟩) lR).trans r2
  have s3 := (HC.out.cell (p := ⟨(B + 1), 3, none⟩) lR).trans r3
  have s4 := (HC.out.cell (p := ⟨(B + 1), 4, none⟩) lR).trans r4
  have s5 := (HC.out.cell (p := ⟨(B + 1), 5, none⟩) lR).trans r5
  have s6 := (HC.out.cell (p := ⟨(B + 1), 6, none⟩) lR).trans r6
  have sf : ∀ o, wc.frozen? ⟨B + 1, o, none⟩ = false := fun o => (HC.out.frozen (p := ⟨B + 1, o, none⟩) lR).trans (rf o)
  have df : ∀ o, wc.frozen? ⟨B, o, none⟩ = false := fun o => (HC.out.frozen (p := ⟨B, o, none⟩) lB).trans (bf o)
  have lBc := Nat.lt_of_lt_of_le lB HC.out.size
  have lRc := Nat.lt_of_lt_of_le lR HC.out.size
  have HBB : Hid (Below W.heap.size W wc) := Lib.hid (HB3.out.trans (HC.out.mono HB3.out.size))
  have HPC := Lib.hid (HP3.out.below HC.out)
  clear b0 b1 b2 b3 b4 b5 b6 r0 r1 r2 r3 r4 r5 r6 rf bf lB lR hlU x0 x1 x2 x3 x4 x5 x6 c_st lK fK HP3 HB3 HC
  cases bad
  case true =>
   have HEQ : Hid (fitsC s.a c = ⟨c, false⟩) := Lib.hid (by rw [HF0.out, if_pos rfl])
   go_wp2
   refine bodyPost_ret (v := .tuple #[.agg #[.int .i64 c.id, .int .i64 c.kind, .int .i64 c.target, .int .i64 c.speed, .int .i64 c.mode, .int .i64 c.num, .int .i64 c.den], .bool false]) (by simp [results, Tryz.results64, go_sem, s0, s1, s2, s3, s4, s5, s6, sf, lRc]) rfl ⟨by rw [HEQ.out]; rfl, ?_⟩
   have hlw := HBB.out
   have hsw := HBB.out.size
   have hrw : W.heap.size ≤ B + 1 := by have := HBW.out; omega
   exact belowBy
  case false =>
   have HFK : Hid (fitsC s.a c = fitsK s.a c) := Lib.hid (by rw [HF0.out, if_neg (by decide)])
   have hpc := HPC.out
   have HVB := Lib.hid (rightB_yes hpc.inv.lr)
   have c_V := hpc.cell 1 _ rfl
   have lK := hpc.lt
   have fK := hpc.froz
   clear hpc
   have hk := HK.out
   have uk1 : (c.kind == 1) = false := by simp [hk]
   have uk2 : (c.kind == 2) = true := by simp [hk]
   have uk3 : (c.kind == 3) = false := by simp [hk]
   have uk4 : (c.kind == 4) = false := by simp [hk]
   have uk5 : (c.kind == 5) = false := by simp [hk]
   have uk6 : (c.kind == 6) = false := by simp [hk]
   have uk7 : (c.kind == 7) = false := by simp [hk]
   have uk8 : (c.kind == 8) = false := by simp [hk]
   have un6 : (c.kind != 6) = true := by simp [hk]
   have un7 : (c.kind != 7) = true := by simp [hk]
   clear hk
   cases ht : takesB s.a.st
   ·have HT := Lib.hid ht
    have HEQ : Hid (fitsC s.a c = ⟨c, false⟩) := Lib.hid (by rw [HFK.out]; unfold fitsK; rw [if_pos ⟨by simp [HK.out], by simp [HK.out], HT.out⟩])
    clear ht
    go_wp2_with (first | (go_at_call 36; refine (takes_any _ _).mono ?_; rw [HT.out]; rintro e w' ⟨rfl, rfl⟩))
    refine bodyPost_ret (v := .tuple #[.agg #[.int .i64 c.id, .int .i64 c.kind, .int .i64 c.target, .int .i64 c.speed, .int .i64 c.mode, .int .i64 c.num, .int .i64 c.den], .bool false]) (by simp [results, Tryz.results64, go_sem, s0, s1, s2, s3, s4, s5, s6, sf, lRc]) rfl ⟨by rw [HEQ.out]; rfl, ?_⟩
    have hlw := HBB.out
    have hsw := HBB.out.size
    have hrw : W.heap.size ≤ B + 1 := by have := HBW.out; omega
    exact belowBy
   ·have HT := Lib.hid ht
    clear ht
    obtain ⟨p, okp, hpl⟩ : ∃ p o, placeX s.a c = (p, o) := ⟨_, _, rfl⟩
    have HPL := Lib.hid hpl
    obtain ⟨bn, hbn⟩ : ∃ b, bndX s.a = b := ⟨_, rfl⟩
    have HBN := Lib.hid hbn
    obtain ⟨hd, hhd⟩ : ∃ b, s.a.hd = b := ⟨_, rfl⟩
    have HHD := Lib.hid hhd
    clear hpl hbn hhd
    go_wp2_with (first | (go_at_call 36; refine (takes_any _ _).mono ?_; rw [HT.out]; rintro e w' ⟨rfl, rfl⟩))
    refine (aplace_at s c K rv _ ⟨_, _, _, _, HPC.out⟩ HCW.out p okp HPL.out).mono ?_
    rintro e w4 ⟨rfl, hb4⟩
    have HP4 := Lib.hid (HPC.out.below hb4)
    have HB4 := Lib.hid hb4
    obtain ⟨L, hL⟩ := axL_some s.a sv nv wv
    have HAL := Lib.hid hL
    have HRG := Lib.hid (HP4.out.range hL)
    have lK4 := HP4.out.lt
    clear hb4 hL c_V lK fK
    go_wp2_with (refine wpList_load_mid rfl 35 _ rfl K 0 rfl L _ HRG.out Tryz.underlying35 rfl HAL.out.size ?_)
    refine (abounds_L s.a sv nv wv L bn w4 HAL.out HBN.out).mono ?_
    rintro e w5 ⟨rfl, hb5⟩
    have HB5 := Lib.hid (HB4.out.trans (hb5.mono HB4.out.size))
    clear hb5 lK4
    go_upto_region 13 with (fail)
    refine wp_name fun wm hW => ?_
    obtain ⟨Y, hB⟩ : ∃ B, B = w5.heap.size := ⟨_, rfl⟩
    have hbel : Below w5.heap.size w5 wm := by rw [hW.out]; exact belowBy
    have hlY : Y < wm.heap.size := by rw [hW.out, hB]; simp
    have y3 : wm.cell? ⟨Y, 3, none⟩ = some (.int .i64 bn.lo) := by rw [hW.out, hB]; go_simp
    have y4 : wm.cell? ⟨Y, 4, none⟩ = some (.int .i64 bn.hi) := by rw [hW.out, hB]; go_simp
    have hba : Below wc.heap.size wc wm := HB5.out.trans (hbel.mono HB5.out.size)
    have m0 := (hba.cell (p := ⟨B, 0, none⟩) lBc).trans d0
    have m1 := (hba.cell (p := ⟨B, 1, none⟩) lBc).trans d1
    have m2 := (hba.cell (p := ⟨B, 2, none⟩) lBc).trans d2
    have m3 := (hba.cell (p := ⟨B, 3, none⟩) lBc).trans d3
    have m4 := (hba.cell (p := ⟨B, 4, none⟩) lBc).trans d4
    have m5 := (hba.cell (p := ⟨B, 5, none⟩) lBc).trans d5
    have m6 := (hba.cell (p := ⟨B, 6, none⟩) lBc).trans d6
    have t0 := (hba.cell (p := ⟨(B + 1), 0, none⟩) lRc).trans s0
    have t1 := (hba.cell (p := ⟨(B + 1), 1, none⟩) lRc).trans s1
    have t2 := (hba.cell (p := ⟨(B + 1), 2, none⟩) lRc).trans s2
    have t3 := (hba.cell (p := ⟨(B + 1), 3, none⟩) lRc).trans s3
    have t4 := (hba.cell (p := ⟨(B + 1), 4, none⟩) lRc).trans s4
    have t5 := (hba.cell (p := ⟨(B + 1), 5, none⟩) lRc).trans s5
    have t6 := (hba.cell (p := ⟨(B + 1), 6, none⟩) lRc).trans s6
    have tf : ∀ o, wm.frozen? ⟨B + 1, o, none⟩ = false := fun o => (hba.frozen (p := ⟨B + 1, o, none⟩) lRc).trans (sf o)
    have mf : ∀ o, wm.frozen? ⟨B, o, none⟩ = false := fun o => (hba.frozen (p := ⟨B, o, none⟩) lBc).trans (df o)
    have HPM := Lib.hid (HPC.out.below hba)
    have HBM : Hid (Below W.heap.size W wm) := Lib.hid (HBB.out.trans (hba.mono HBB.out.size))
    have lBm := Nat.lt_of_lt_of_le lBc hba.size
    have lRm := Nat.lt_of_lt_of_le lRc hba.size
    have hpm := HPM.out
    (try rw [← hB])
    (try simp only [Act.put])
    clear hW hB hbel hba d0 d1 d2 d3 d4 d5 d6 s0 s1 s2 s3 s4 s5 s6 sf df lBc lRc HB4 HB5 HP4 HPC HBB
    have c_hd : wm.cell? ⟨K, 16, none⟩ = some (.bool hd) := hpm.cell 16 _ (by rw [← HHD.out]; rfl)
    have lK := hpm.lt
    clear hpm
    cases okp
    ·have HEQ : Hid (fitsC s.a c = ⟨c, false⟩) := Lib.hid (by
      rw [HFK.out]
      unfold fitsK
      rw [if_neg (by rw [HT.out]; simp), if_pos (show moveC c = true from decide_eq_true (by rw [HK.out]; omega)), HPL.out]
      rw [if_neg (by simp)])
     go_wp2
     refine bodyPost_ret (v := .tuple #[.agg #[.int .i64 c.id, .int .i64 c.kind, .int .i64 c.target, .int .i64 c.speed, .int .i64 c.mode, .int .i64 c.num, .int .i64 c.den], .bool false]) (by simp [results, Tryz.results64, go_sem, t0, t1, t2, t3, t4, t5, t6, tf, lRm]) rfl ⟨by rw [HEQ.out]; rfl, ?_⟩
     have hlw := HBM.out
     have hsw := HBM.out.size
     have hrw : W.heap.size ≤ B + 1 := by have := HBW.out; omega
     have hrb : W.heap.size ≤ B := HBW.out
     exact belowBy
    ·cases hs : speedX s.a c.speed
     ·have HSP := Lib.hid hs
      clear hs
      have HEQ : Hid (fitsC s.a c = ⟨c, false⟩) := Lib.hid (by
       rw [HFK.out]
       unfold fitsK
       rw [if_neg (by rw [HT.out]; simp), if_pos (show moveC c = true from decide_eq_true (by rw [HK.out]; omega)), HPL.out]
       rw [if_neg (by rw [HSP.out]; simp)])
      go_wp2_with (first | (go_at_call 91; refine (aspeed_at s c.speed false K rv _ ⟨_, _, _, _, HPM.out⟩ HSP.out).mono ?_; rintro e w' ⟨rfl, rfl⟩))
      refine bodyPost_ret (v := .tuple #[.agg #[.int .i64 c.id, .int .i64 c.kind, .int .i64 c.target, .int .i64 c.speed, .int .i64 c.mode, .int .i64 c.num, .int .i64 c.den], .bool false]) (by simp [results, Tryz.results64, go_sem, t0, t1, t2, t3, t4, t5, t6, tf, lRm]) rfl ⟨by rw [HEQ.out]; rfl, ?_⟩
      have hlw := HBM.out
      have hsw := HBM.out.size
      have hrw : W.heap.size ≤ B + 1 := by have := HBW.out; omega
      have hrb : W.heap.size ≤ B := HBW.out
      exact belowBy
     ·have HSP := Lib.hid hs
      clear hs
      by_cases h1 : p < bn.lo
      ·have HEQ : Hid (fitsC s.a c = ⟨c, false⟩) := Lib.hid (by
        rw [HFK.out]
        unfold fitsK
        rw [if_neg (by rw [HT.out]; simp), if_pos (show moveC c = true from decide_eq_true (by rw [HK.out]; omega)), HPL.out]
        rw [if_neg (by rw [HBN.out]; dsimp only; omega)])
       go_wp2_with (first | (go_at_call 91; refine (aspeed_at s c.speed true K rv _ ⟨_, _, _, _, HPM.out⟩ HSP.out).mono ?_; rintro e w' ⟨rfl, rfl⟩))
       refine bodyPost_ret (v := .tuple #[.agg #[.int .i64 c.id, .int .i64 c.kind, .int .i64 c.target, .int .i64 c.speed, .int .i64 c.mode, .int .i64 c.num, .int .i64 c.den], .bool false]) (by simp [results, Tryz.results64, go_sem, t0, t1, t2, t3, t4, t5, t6, tf, lRm]) rfl ⟨by rw [HEQ.out]; rfl, ?_⟩
       have hlw := HBM.out
       have hsw := HBM.out.size
       have hrw : W.heap.size ≤ B + 1 := by have := HBW.out; omega
       have hrb : W.heap.size ≤ B := HBW.out
       exact belowBy
      ·by_cases h2 : bn.hi < p
       ·have HEQ : Hid (fitsC s.a c = ⟨c, false⟩) := Lib.hid (by
         rw [HFK.out]
         unfold fitsK
         rw [if_neg (by rw [HT.out]; simp), if_pos (show moveC c = true from decide_eq_true (by rw [HK.out]; omega)), HPL.out]
         rw [if_neg (by rw [HBN.out]; dsimp only; omega)])
        go_wp2_with (first | (go_at_call 91; refine (aspeed_at s c.speed true K rv _ ⟨_, _, _, _, HPM.out⟩ HSP.out).mono ?_; rintro e w' ⟨rfl, rfl⟩))
        refine bodyPost_ret (v := .tuple #[.agg #[.int .i64 c.id, .int .i64 c.kind, .int .i64 c.target, .int .i64 c.speed, .int .i64 c.mode, .int .i64 c.num, .int .i64 c.den], .bool false]) (by simp [results, Tryz.results64, go_sem, t0, t1, t2, t3, t4, t5, t6, tf, lRm]) rfl ⟨by rw [HEQ.out]; rfl, ?_⟩
        have hlw := HBM.out
        have hsw := HBM.out.size
        have hrw : W.heap.size ≤ B + 1 := by have := HBW.out; omega
        have hrb : W.heap.size ≤ B := HBW.out
        exact belowBy
       ·have HEQ : Hid (fitsC s.a c = ⟨{ c with kind := 1, target := p }, true⟩) := Lib.hid (by
         rw [HFK.out]
         unfold fitsK
         rw [if_neg (by rw [HT.out]; simp), if_pos (show moveC c = true from decide_eq_true (by rw [HK.out]; omega)), HPL.out]
         rw [if_pos ⟨rfl, HSP.out, by rw [HBN.out]; dsimp only; omega, by rw [HBN.out]; dsimp only; omega, fun hh => absurd hh (by rw [HK.out]; decide)⟩])
        go_wp2_with (first | (go_at_call 91; refine (aspeed_at s c.speed true K rv _ ⟨_, _, _, _, HPM.out⟩ HSP.out).mono ?_; rintro e w' ⟨rfl, rfl⟩))
        refine bodyPost_ret (v := .tuple #[.agg #[.int .i64 c.id, .int .i64 1, .int .i64 p, .int .i64 c.speed, .int .i64 c.mode, .int .i64 c.num, .int .i64 c.den], .bool true]) (by simp [results, Tryz.results64, go_sem, t0, t1, t2, t3, t4, t5, t6, tf, lRm]) rfl ⟨by rw [HEQ.out]; rfl, ?_⟩
        have hlw := HBM.out
        have hsw := HBM.out.size
        have hrw : W.heap.size ≤ B + 1 := by have := HBW.out; omega
        have hrb : W.heap.size ≤ B := HBW.out
        exact belowBy

end Go.Proofs.YthhfnageadckkaaGreat
