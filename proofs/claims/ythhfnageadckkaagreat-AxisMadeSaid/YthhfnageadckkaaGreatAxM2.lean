/- Layer 15: the axis is switched on. PRINTED by wip/tool/mkon.py -/
import Derived.Test.YthhfnageadckkaaGreatM21
import Derived.Test.YthhfnageadckkaaGreatM17
set_option maxHeartbeats 4000000
namespace Go.Proofs.YthhfnageadckkaaGreat
open Go.RowKit
set_option linter.unusedVariables false
set_option linter.unusedSimpArgs false
attribute [local go_sem] ite_max ite_min vite_max vite_min ext_cell ext_frozen

theorem fitV_of {x : Int} (h : fitB x = true) : fitV x = x := fitV_yes (of_decide_eq_true h)

set_option maxRecDepth 100000 in
theorem aon_a (s : WS) (K : Nat) (rv : Value) (W : World) (h : WK W K s rv) (hf : fitB (s.i.act - s.a.off) = false) :
  Calls Tryz.prog 63 #[.pointer (some ⟨K, 0, none⟩)] W fun x w' => x = .returned (.tuple #[]) ∧ WK w' K (onX s) rv ∧ Turn K rv rv W w' := by
 obtain ⟨sv, nv, wv, cv, hp⟩ := h
 have HP := Lib.hid hp
 have hac := hp.iw.act
 have hof : I64 s.a.off := ⟨by have := hp.inv.off; omega, by have := hp.inv.off; omega⟩
 have c_act := hp.cell 28 _ rfl
 have c_off := hp.cell 13 _ rfl
 have lK := hp.lt
 have fK := hp.froz
 clear hp
 have HEQ : Hid (onX s = s) := Lib.hid (by unfold onX; dsimp only; rw [if_pos hf])
 have HO := Lib.hid hf
 have HV : Hid (fitV (s.i.act - s.a.off) = 0) := Lib.hid (by unfold fitV; rw [hf]; rfl)
 clear hf
 go_enter Tryz.func63, Tryz.ntmps63
 go_wp2_with fail
 refine wp_region_ext (by kernel_rfl) (by kernel_rfl) ?_
 repeat (go_big_quiet_step (first | (go_at_call 87; exact ext_same (qsub_at _ _ 0 false _ hac hof HV.out HO.out))))
 refine wpQuiet_nil ?_
 intro w1 hb1
 replace hb1 := ext_below hb1
 have HP1 := Lib.hid (HP.out.below hb1)
 have HT1 : Hid (Turn K rv rv W w1) := Lib.hid (Turn.of_below hb1)
 clear hb1 c_act c_off lK fK
 go_wp2
 first
  | exact bodyPost_ret (results_none rfl _ _ _) rfl ⟨rfl, by rw [HEQ.out]; exact ⟨sv, nv, wv, cv, HP1.out⟩, HT1.out⟩
  | exact bodyPost_end (results_none rfl _ _ _) rfl ⟨rfl, by rw [HEQ.out]; exact ⟨sv, nv, wv, cv, HP1.out⟩, HT1.out⟩

set_option maxRecDepth 100000 in
theorem aon_b (s : WS) (K : Nat) (rv : Value) (W : World) (h : WK W K s rv) (hf : fitB (s.i.act - s.a.off) = true) (p : Int) (hpv : s.i.act - s.a.off = p) (hin : (bndX s.a).lo ≤ p ∧ p ≤ (bndX s.a).hi) :
  Calls Tryz.prog 63 #[.pointer (some ⟨K, 0, none⟩)] W fun x w' => x = .returned (.tuple #[]) ∧ WK w' K (onX s) rv ∧ Turn K rv rv W w' := by
 obtain ⟨sv, nv, wv, cv, hp⟩ := h
 have HP := Lib.hid hp
 have hac := hp.iw.act
 have hof : I64 s.a.off := ⟨by have := hp.inv.off; omega, by have := hp.inv.off; omega⟩
 have c_act := hp.cell 28 _ rfl
 have c_off := hp.cell 13 _ rfl
 have lK := hp.lt
 have fK := hp.froz
 clear hp
 have HEQ : Hid (onX s = { happX (placedX s p) 1 with fr := true }) := Lib.hid (by unfold onX; dsimp only; rw [if_neg (by rw [hf]; decide), hpv, if_pos hin, if_pos HP.out.inv.off])
 have HPL := Lib.hid hin
 have HRNG := hin
 have HV : Hid (fitV (s.i.act - s.a.off) = p) := Lib.hid (by rw [fitV_of hf, hpv])
 have HO := Lib.hid hf
 have hfar := HP.out.inv.off
 clear hf hpv hin
 go_enter Tryz.func63, Tryz.ntmps63
 go_wp2_with fail
 refine wp_region_ext (by kernel_rfl) (by kernel_rfl) ?_
 repeat (go_big_quiet_step (first | (go_at_call 87; exact ext_same (qsub_at _ _ p true _ hac hof HV.out HO.out))))
 refine wpQuiet_nil ?_
 intro w1 hb1
 replace hb1 := ext_below hb1
 have HP1 := Lib.hid (HP.out.below hb1)
 have HT1 : Hid (Turn K rv rv W w1) := Lib.hid (Turn.of_below hb1)
 clear hb1 c_act c_off lK fK
 obtain ⟨b, hb⟩ : ∃ b, bndX s.a = b := ⟨_, rfl⟩
 have HBN := Lib.hid hb
 rw [hb] at HRNG
 clear hb
 obtain ⟨L, hL⟩ := axL_some s.a sv nv wv
 have HAL := Lib.hid hL
 have HRG := Lib.hid (HP1.out.range hL)
 have lK1 := HP1.out.lt
 clear hL
 go_wp2_with (refine wpList_load_mid rfl 35 _ rfl K 0 rfl L _ HRG.out Tryz.underlying35 rfl HAL.out.size ?_)
 refine (abounds_L s.a sv nv wv L b w1 HAL.out HBN.out).mono ?_
 rintro e w2 ⟨rfl, hb2⟩
 have HP2 := Lib.hid (HP1.out.below hb2)
 have HT2 := Lib.hid (HT1.out.trans (Turn.of_below hb2))
 clear hb2 lK1
 go_upto_region 3 with (fail)
 refine wp_name fun W3 hW3 => ?_
 obtain ⟨B, hB⟩ : ∃ B, B = w2.heap.size := ⟨_, rfl⟩
 have hbel : Below w2.heap.size w2 W3 := by rw [hW3.out]; exact belowBy
 have hlB : B < W3.heap.size := by rw [hW3.out, hB]; simp
 have b3 : W3.cell? ⟨B, 3, none⟩ = some (.int .i64 b.lo) := by rw [hW3.out, hB]; go_simp
 have b4 : W3.cell? ⟨B, 4, none⟩ = some (.int .i64 b.hi) := by rw [hW3.out, hB]; go_simp
 have HP3 := Lib.hid (HP2.out.below hbel)
 have HT3 := Lib.hid (HT2.out.trans (Turn.of_below hbel))
 have hp3 := HP3.out
 have c_hd := hp3.cell 16 _ rfl
 have c_off := hp3.cell 13 _ rfl
 have lK := hp3.lt
 have fK := hp3.froz
 (try rw [← hB])
 (try simp only [Act.put])
 clear hW3 hbel hB hp3
 refine wp_region_ext (by kernel_rfl) (by kernel_rfl) ?_
 repeat (go_big_quiet_step (fail))
 refine wpQuiet_nil ?_
 intro w4 hb4
 replace hb4 := ext_below hb4
 have HP4 := Lib.hid (HP3.out.below hb4)
 have HT4 := Lib.hid (HT3.out.trans (Turn.of_below hb4))
 have hlB4 : B < w4.heap.size := Nat.lt_of_lt_of_le hlB hb4.size
 have d3 := (hb4.cell (p := ⟨B, 3, none⟩) hlB).trans b3
 have d4 := (hb4.cell (p := ⟨B, 4, none⟩) hlB).trans b4
 have hp4 := HP4.out
 clear hb4 c_hd c_off lK fK b3 b4 hlB
 have c_hd := hp4.cell 16 _ rfl
 have c_off := hp4.cell 13 _ rfl
 have c_act := hp4.cell 28 _ rfl
 have c_fr := hp4.cell 39 _ rfl
 have lK := hp4.lt
 have fK := hp4.froz
 clear hp4
 have g1 : ¬ p < b.lo := by omega
 have g2 : ¬ b.hi < p := by omega
 have g3 : ¬ s.a.off < -288230376151711744 := by omega
 have g4 : ¬ 288230376151711744 < s.a.off := by omega
 clear HRNG hfar
 go_upto_region 11 with (fail)
 refine wp_name fun W5 hW5 => ?_
 have hf := HP4.out.put0 [(16, .bool s.a.hd), (13, .int .i64 s.a.off)] (s) rfl rfl rfl rfl rfl (HP.out.inv) rfl
 have HP6 : Hid (WKp W5 K (s) rv sv nv wv cv ∧ Turn K rv rv w4 W5) := Lib.hid (by rw [hW5.out]; exact hf)
 have HT6 := Lib.hid (HT4.out.trans HP6.out.2)
 clear hf hW5 c_hd c_off c_fr lK fK
 go_wp2_with fail
 refine (aplaced_at (s) p K rv _ ⟨_, _, _, _, HP6.out.1⟩ HPL.out).mono ?_
 rintro e w6 ⟨rfl, hw6, ht6⟩
 have HW6 := Lib.hid hw6
 have HT7 := Lib.hid (HT6.out.trans ht6)
 clear hw6 ht6
 go_wp2_with fail
 refine (ahapp_at _ 1 K rv _ HW6.out).mono ?_
 rintro e w7 ⟨rfl, ⟨sv7, nv7, wv7, cv7, hp7⟩, ht7⟩
 have HP7 := Lib.hid hp7
 have HT8 := Lib.hid (HT7.out.trans ht7)
 have c_fr := hp7.cell 39 _ rfl
 have lK := hp7.lt
 have fK := hp7.froz
 clear hp7 ht7
 have hf := HP7.out.put0 [(39, .bool true)] (onX s) (by rw [HEQ.out]; rfl) (by rw [HEQ.out]) (by rw [HEQ.out]) (by rw [HEQ.out]) (by rw [HEQ.out]) (by rw [HEQ.out]; exact HP7.out.inv) (by rw [HEQ.out])
 have HF := Lib.hid hf
 clear hf
 go_wp2
 exact bodyPost_end (results_none rfl _ _ _) rfl ⟨rfl, ⟨sv7, nv7, wv7, cv7, HF.out.1⟩, HT8.out.trans HF.out.2⟩

set_option maxRecDepth 100000 in
theorem aon_c (s : WS) (K : Nat) (rv : Value) (W : World) (h : WK W K s rv) (hf : fitB (s.i.act - s.a.off) = true) (p : Int) (hpv : s.i.act - s.a.off = p) (hout : ¬ ((bndX s.a).lo ≤ p ∧ p ≤ (bndX s.a).hi)) (q : Int) (hq : max (-1099511627776) (min p 1099511627776) = q) (oo : Int) (hoo : s.i.act - q = oo) (hf2 : fitB oo = false) :
  Calls Tryz.prog 63 #[.pointer (some ⟨K, 0, none⟩)] W fun x w' => x = .returned (.tuple #[]) ∧ WK w' K (onX s) rv ∧ Turn K rv rv W w' := by
 obtain ⟨sv, nv, wv, cv, hp⟩ := h
 have HP := Lib.hid hp
 have hac := hp.iw.act
 have hof : I64 s.a.off := ⟨by have := hp.inv.off; omega, by have := hp.inv.off; omega⟩
 have c_act := hp.cell 28 _ rfl
 have c_off := hp.cell 13 _ rfl
 have lK := hp.lt
 have fK := hp.froz
 clear hp
 have HEQ : Hid (onX s = s) := Lib.hid (by unfold onX; dsimp only; rw [if_neg (by rw [hf]; decide), hpv, if_neg hout, hq, hoo]; rw [if_pos hf2])
 have HQ := Lib.hid hq
 have HRNG := hout
 have HV : Hid (fitV (s.i.act - s.a.off) = p) := Lib.hid (by rw [fitV_of hf, hpv])
 have HO := Lib.hid hf
 have hq64 : I64 q := ⟨by omega, by omega⟩
 have hqb : -1099511627776 ≤ q ∧ q ≤ 1099511627776 := by omega
 have HQB := Lib.hid hqb
 have HO2 : Hid (fitB (s.i.act - q) = false) := Lib.hid (by rw [hoo]; exact hf2)
 have HV2 : Hid (fitV (s.i.act - q) = 0) := Lib.hid (by unfold fitV; rw [hoo, hf2]; rfl)
 clear hf hpv hout hq hoo hf2 hqb
 go_enter Tryz.func63, Tryz.ntmps63
 go_wp2_with fail
 refine wp_region_ext (by kernel_rfl) (by kernel_rfl) ?_
 repeat (go_big_quiet_step (first | (go_at_call 87; exact ext_same (qsub_at _ _ p true _ hac hof HV.out HO.out))))
 refine wpQuiet_nil ?_
 intro w1 hb1
 replace hb1 := ext_below hb1
 have HP1 := Lib.hid (HP.out.below hb1)
 have HT1 : Hid (Turn K rv rv W w1) := Lib.hid (Turn.of_below hb1)
 clear hb1 c_act c_off lK fK
 obtain ⟨b, hb⟩ : ∃ b, bndX s.a = b := ⟨_, rfl⟩
 have HBN := Lib.hid hb
 rw [hb] at HRNG
 clear hb
 obtain ⟨L, hL⟩ := axL_some s.a sv nv wv
 have HAL := Lib.hid hL
 have HRG := Lib.hid (HP1.out.range hL)
 have lK1 := HP1.out.lt
 clear hL
 go_wp2_with (refine wpList_load_mid rfl 35 _ rfl K 0 rfl L _ HRG.out Tryz.underlying35 rfl HAL.out.size ?_)
 refine (abounds_L s.a sv nv wv L b w1 HAL.out HBN.out).mono ?_
 rintro e w2 ⟨rfl, hb2⟩
 have HP2 := Lib.hid (HP1.out.below hb2)
 have HT2 := Lib.hid (HT1.out.trans (Turn.of_below hb2))
 clear hb2 lK1
 go_upto_region 3 with (fail)
 refine wp_name fun W3 hW3 => ?_
 obtain ⟨B, hB⟩ : ∃ B, B = w2.heap.size := ⟨_, rfl⟩
 have hbel : Below w2.heap.size w2 W3 := by rw [hW3.out]; exact belowBy
 have hlB : B < W3.heap.size := by rw [hW3.out, hB]; simp
 have b3 : W3.cell? ⟨B, 3, none⟩ = some (.int .i64 b.lo) := by rw [hW3.out, hB]; go_simp
 have b4 : W3.cell? ⟨B, 4, none⟩ = some (.int .i64 b.hi) := by rw [hW3.out, hB]; go_simp
 have HP3 := Lib.hid (HP2.out.below hbel)
 have HT3 := Lib.hid (HT2.out.trans (Turn.of_below hbel))
 have hp3 := HP3.out
 have c_hd := hp3.cell 16 _ rfl
 have c_off := hp3.cell 13 _ rfl
 have lK := hp3.lt
 have fK := hp3.froz
 (try rw [← hB])
 (try simp only [Act.put])
 clear hW3 hbel hB hp3
 refine wp_region_ext (by kernel_rfl) (by kernel_rfl) ?_
 repeat (go_big_quiet_step (fail))
 refine wpQuiet_nil ?_
 intro w4 hb4
 replace hb4 := ext_below hb4
 have HP4 := Lib.hid (HP3.out.below hb4)
 have HT4 := Lib.hid (HT3.out.trans (Turn.of_below hb4))
 have hlB4 : B < w4.heap.size := Nat.lt_of_lt_of_le hlB hb4.size
 have d3 := (hb4.cell (p := ⟨B, 3, none⟩) hlB).trans b3
 have d4 := (hb4.cell (p := ⟨B, 4, none⟩) hlB).trans b4
 have hp4 := HP4.out
 clear hb4 c_hd c_off lK fK b3 b4 hlB
 have c_hd := hp4.cell 16 _ rfl
 have c_off := hp4.cell 13 _ rfl
 have c_act := hp4.cell 28 _ rfl
 have c_fr := hp4.cell 39 _ rfl
 have lK := hp4.lt
 have fK := hp4.froz
 clear hp4
 by_cases g1 : p < b.lo
 ·clear HRNG
  go_wp2_with (first | (go_at_call 88; refine (qclamp_at _ _ _ q _ HQ.out).mono ?_; rintro e w' ⟨rfl, rfl⟩) | (go_at_call 87; refine (qsub_at _ _ 0 false _ hac hq64 HV2.out HO2.out).mono ?_; rintro e w' ⟨rfl, rfl⟩))
  first
   | exact bodyPost_ret (results_none rfl _ _ _) rfl ⟨rfl, by rw [HEQ.out]; exact ⟨sv, nv, wv, cv, HP4.out⟩, HT4.out⟩
   | exact bodyPost_end (results_none rfl _ _ _) rfl ⟨rfl, by rw [HEQ.out]; exact ⟨sv, nv, wv, cv, HP4.out⟩, HT4.out⟩
 ·have g2 : b.hi < p := by omega
  clear HRNG
  go_wp2_with (first | (go_at_call 88; refine (qclamp_at _ _ _ q _ HQ.out).mono ?_; rintro e w' ⟨rfl, rfl⟩) | (go_at_call 87; refine (qsub_at _ _ 0 false _ hac hq64 HV2.out HO2.out).mono ?_; rintro e w' ⟨rfl, rfl⟩))
  first
   | exact bodyPost_ret (results_none rfl _ _ _) rfl ⟨rfl, by rw [HEQ.out]; exact ⟨sv, nv, wv, cv, HP4.out⟩, HT4.out⟩
   | exact bodyPost_end (results_none rfl _ _ _) rfl ⟨rfl, by rw [HEQ.out]; exact ⟨sv, nv, wv, cv, HP4.out⟩, HT4.out⟩

set_option maxRecDepth 100000 in
theorem aon_d1 (s : WS) (K : Nat) (rv : Value) (W : World) (h : WK W K s rv) (hf : fitB (s.i.act - s.a.off) = true) (p : Int) (hpv : s.i.act - s.a.off = p) (hout : ¬ ((bndX s.a).lo ≤ p ∧ p ≤ (bndX s.a).hi)) (q : Int) (hq : max (-1099511627776) (min p 1099511627776) = q) (oo : Int) (hoo : s.i.act - q = oo) (hf2 : fitB oo = true) (g3 : oo < -288230376151711744) :
  Calls Tryz.prog 63 #[.pointer (some ⟨K, 0, none⟩)] W fun x w' => x = .returned (.tuple #[]) ∧ WK w' K (onX s) rv ∧ Turn K rv rv W w' := by
 obtain ⟨sv, nv, wv, cv, hp⟩ := h
 have HP := Lib.hid hp
 have hac := hp.iw.act
 have hof : I64 s.a.off := ⟨by have := hp.inv.off; omega, by have := hp.inv.off; omega⟩
 have c_act := hp.cell 28 _ rfl
 have c_off := hp.cell 13 _ rfl
 have lK := hp.lt
 have fK := hp.froz
 clear hp
 have HEQ : Hid (onX s = s) := Lib.hid (by unfold onX; dsimp only; rw [if_neg (by rw [hf]; decide), hpv, if_neg hout, hq, hoo]; rw [if_neg (by rw [hf2]; decide), if_neg (by omega)])
 have HQ := Lib.hid hq
 have HRNG := hout
 have HV : Hid (fitV (s.i.act - s.a.off) = p) := Lib.hid (by rw [fitV_of hf, hpv])
 have HO := Lib.hid hf
 have hq64 : I64 q := ⟨by omega, by omega⟩
 have hqb : -1099511627776 ≤ q ∧ q ≤ 1099511627776 := by omega
 have HQB := Lib.hid hqb
 have HO2 : Hid (fitB (s.i.act - q) = true) := Lib.hid (by rw [hoo]; exact hf2)
 have HV2 : Hid (fitV (s.i.act - q) = oo) := Lib.hid (by rw [hoo, fitV_of hf2])
 clear hf hpv hout hq hoo hf2 hqb
 go_enter Tryz.func63, Tryz.ntmps63
 go_wp2_with fail
 refine wp_region_ext (by kernel_rfl) (by kernel_rfl) ?_
 repeat (go_big_quiet_step (first | (go_at_call 87; exact ext_same (qsub_at _ _ p true _ hac hof HV.out HO.out))))
 refine wpQuiet_nil ?_
 intro w1 hb1
 replace hb1 := ext_below hb1
 have HP1 := Lib.hid (HP.out.below hb1)
 have HT1 : Hid (Turn K rv rv W w1) := Lib.hid (Turn.of_below hb1)
 clear hb1 c_act c_off lK fK
 obtain ⟨b, hb⟩ : ∃ b, bndX s.a = b := ⟨_, rfl⟩
 have HBN := Lib.hid hb
 rw [hb] at HRNG
 clear hb
 obtain ⟨L, hL⟩ := axL_some s.a sv nv wv
 have HAL := Lib.hid hL
 have HRG := Lib.hid (HP1.out.range hL)
 have lK1 := HP1.out.lt
 clear hL
 go_wp2_with (refine wpList_load_mid rfl 35 _ rfl K 0 rfl L _ HRG.out Tryz.underlying35 rfl HAL.out.size ?_)
 refine (abounds_L s.a sv nv wv L b w1 HAL.out HBN.out).mono ?_
 rintro e w2 ⟨rfl, hb2⟩
 have HP2 := Lib.hid (HP1.out.below hb2)
 have HT2 := Lib.hid (HT1.out.trans (Turn.of_below hb2))
 clear hb2 lK1
 go_upto_region 3 with (fail)
 refine wp_name fun W3 hW3 => ?_
 obtain ⟨B, hB⟩ : ∃ B, B = w2.heap.size := ⟨_, rfl⟩
 have hbel : Below w2.heap.size w2 W3 := by rw [hW3.out]; exact belowBy
 have hlB : B < W3.heap.size := by rw [hW3.out, hB]; simp
 have b3 : W3.cell? ⟨B, 3, none⟩ = some (.int .i64 b.lo) := by rw [hW3.out, hB]; go_simp
 have b4 : W3.cell? ⟨B, 4, none⟩ = some (.int .i64 b.hi) := by rw [hW3.out, hB]; go_simp
 have HP3 := Lib.hid (HP2.out.below hbel)
 have HT3 := Lib.hid (HT2.out.trans (Turn.of_below hbel))
 have hp3 := HP3.out
 have c_hd := hp3.cell 16 _ rfl
 have c_off := hp3.cell 13 _ rfl
 have lK := hp3.lt
 have fK := hp3.froz
 (try rw [← hB])
 (try simp only [Act.put])
 clear hW3 hbel hB hp3
 refine wp_region_ext (by kernel_rfl) (by kernel_rfl) ?_
 repeat (go_big_quiet_step (fail))
 refine wpQuiet_nil ?_
 intro w4 hb4
 replace hb4 := ext_below hb4
 have HP4 := Lib.hid (HP3.out.below hb4)
 have HT4 := Lib.hid (HT3.out.trans (Turn.of_below hb4))
 have hlB4 : B < w4.heap.size := Nat.lt_of_lt_of_le hlB hb4.size
 have d3 := (hb4.cell (p := ⟨B, 3, none⟩) hlB).trans b3
 have d4 := (hb4.cell (p := ⟨B, 4, none⟩) hlB).trans b4
 have hp4 := HP4.out
 clear hb4 c_hd c_off lK fK b3 b4 hlB
 have c_hd := hp4.cell 16 _ rfl
 have c_off := hp4.cell 13 _ rfl
 have c_act := hp4.cell 28 _ rfl
 have c_fr := hp4.cell 39 _ rfl
 have lK := hp4.lt
 have fK := hp4.froz
 clear hp4
 by_cases g1 : p < b.lo
 ·clear HRNG
  go_wp2_with (first | (go_at_call 88; refine (qclamp_at _ _ _ q _ HQ.out).mono ?_; rintro e w' ⟨rfl, rfl⟩) | (go_at_call 87; refine (qsub_at _ _ oo true _ hac hq64 HV2.out HO2.out).mono ?_; rintro e w' ⟨rfl, rfl⟩))
  first
   | exact bodyPost_ret (results_none rfl _ _ _) rfl ⟨rfl, by rw [HEQ.out]; exact ⟨sv, nv, wv, cv, HP4.out⟩, HT4.out⟩
   | exact bodyPost_end (results_none rfl _ _ _) rfl ⟨rfl, by rw [HEQ.out]; exact ⟨sv, nv, wv, cv, HP4.out⟩, HT4.out⟩
 ·have g2 : b.hi < p := by omega
  clear HRNG
  go_wp2_with (first | (go_at_call 88; refine (qclamp_at _ _ _ q _ HQ.out).mono ?_; rintro e w' ⟨rfl, rfl⟩) | (go_at_call 87; refine (qsub_at _ _ oo true _ hac hq64 HV2.out HO2.out).mono ?_; rintro e w' ⟨rfl, rfl⟩))
  first
   | exact bodyPost_ret (results_none rfl _ _ _) rfl ⟨rfl, by rw [HEQ.out]; exact ⟨sv, nv, wv, cv, HP4.out⟩, HT4.out⟩
   | exact bodyPost_end (results_none rfl _ _ _) rfl ⟨rfl, by rw [HEQ.out]; exact ⟨sv, nv, wv, cv, HP4.out⟩, HT4.out⟩

set_option maxRecDepth 100000 in
theorem aon_d2 (s : WS) (K : Nat) (rv : Value) (W : World) (h : WK W K s rv) (hf : fitB (s.i.act - s.a.off) = true) (p : Int) (hpv : s.i.act - s.a.off = p) (hout : ¬ ((bndX s.a).lo ≤ p ∧ p ≤ (bndX s.a).hi)) (q : Int) (hq : max (-1099511627776) (min p 1099511627776) = q) (oo : Int) (hoo : s.i.act - q = oo) (hf2 : fitB oo = true) (g3 : ¬ oo < -288230376151711744) (g4 : 288230376151711744 < oo) :
  Calls Tryz.prog 63 #[.pointer (some ⟨K, 0, none⟩)] W fun x w' => x = .returned (.tuple #[]) ∧ WK w' K (onX s) rv ∧ Turn K rv rv W w' := by
 obtain ⟨sv, nv, wv, cv, hp⟩ := h
 have HP := Lib.hid hp
 have hac := hp.iw.act
 have hof : I64 s.a.off := ⟨by have := hp.inv.off; omega, by have := hp.inv.off; omega⟩
 have c_act := hp.cell 28 _ rfl
 have c_off := hp.cell 13 _ rfl
 have lK := hp.lt
 have fK := hp.froz
 clear hp
 have HEQ : Hid (onX s = s) := Lib.hid (by unfold onX; dsimp only; rw [if_neg (by rw [hf]; decide), hpv, if_neg hout, hq, hoo]; rw [if_neg (by rw [hf2]; decide), if_neg (by omega)])
 have HQ := Lib.hid hq
 have HRNG := hout
 have HV : Hid (fitV (s.i.act - s.a.off) = p) := Lib.hid (by rw [fitV_of hf, hpv])
 have HO := Lib.hid hf
 have hq64 : I64 q := ⟨by omega, by omega⟩
 have hqb : -1099511627776 ≤ q ∧ q ≤ 1099511627776 := by omega
 have HQB := Lib.hid hqb
 have HO2 : Hid (fitB (s.i.act - q) = true) := Lib.hid (by rw [hoo]; exact hf2)
 have HV2 : Hid (fitV (s.i.act - q) = oo) := Lib.hid (by rw [hoo, fitV_of hf2])
 clear hf hpv hout hq hoo hf2 hqb
 go_enter Tryz.func63, Tryz.ntmps63
 go_wp2_with fail
 refine wp_region_ext (by kernel_rfl) (by kernel_rfl) ?_
 repeat (go_big_quiet_step (first | (go_at_call 87; exact ext_same (qsub_at _ _ p true _ hac hof HV.out HO.out))))
 refine wpQuiet_nil ?_
 intro w1 hb1
 replace hb1 := ext_below hb1
 have HP1 := Lib.hid (HP.out.below hb1)
 have HT1 : Hid (Turn K rv rv W w1) := Lib.hid (Turn.of_below hb1)
 clear hb1 c_act c_off lK fK
 obtain ⟨b, hb⟩ : ∃ b, bndX s.a = b := ⟨_, rfl⟩
 have HBN := Lib.hid hb
 rw [hb] at HRNG
 clear hb
 obtain ⟨L, hL⟩ := axL_some s.a sv nv wv
 have HAL := Lib.hid hL
 have HRG := Lib.hid (HP1.out.range hL)
 have lK1 := HP1.out.lt
 clear hL
 go_wp2_with (refine wpList_load_mid rfl 35 _ rfl K 0 rfl L _ HRG.out Tryz.underlying35 rfl HAL.out.size ?_)
 refine (abounds_L s.a sv nv wv L b w1 HAL.out HBN.out).mono ?_
 rintro e w2 ⟨rfl, hb2⟩
 have HP2 := Lib.hid (HP1.out.below hb2)
 have HT2 := Lib.hid (HT1.out.trans (Turn.of_below hb2))
 clear hb2 lK1
 go_upto_region 3 with (fail)
 refine wp_name fun W3 hW3 => ?_
 obtain ⟨B, hB⟩ : ∃ B, B = w2.heap.size := ⟨_, rfl⟩
 have hbel : Below w2.heap.size w2 W3 := by rw [hW3.out]; exact belowBy
 have hlB : B < W3.heap.size := by rw [hW3.out, hB]; simp
 have b3 : W3.cell? ⟨B, 3, none⟩ = some (.int .i64 b.lo) := by rw [hW3.out, hB]; go_simp
 have b4 : W3.cell? ⟨B, 4, none⟩ = some (.int .i64 b.hi) := by rw [hW3.out, hB]; go_simp
 have HP3 := Lib.hid (HP2.out.below hbel)
 have HT3 := Lib.hid (HT2.out.trans (Turn.of_below hbel))
 have hp3 := HP3.out
 have c_hd := hp3.cell 16 _ rfl
 have c_off := hp3.cell 13 _ rfl
 have lK := hp3.lt
 have fK := hp3.froz
 (try rw [← hB])
 (try simp only [Act.put])
 clear hW3 hbel hB hp3
 refine wp_region_ext (by kernel_rfl) (by kernel_rfl) ?_
 repeat (go_big_quiet_step (fail))
 refine wpQuiet_nil ?_
 intro w4 hb4
 replace hb4 := ext_below hb4
 have HP4 := Lib.hid (HP3.out.below hb4)
 have HT4 := Lib.hid (HT3.out.trans (Turn.of_below hb4))
 have hlB4 : B < w4.heap.size := Nat.lt_of_lt_of_le hlB hb4.size
 have d3 := (hb4.cell (p := ⟨B, 3, none⟩) hlB).trans b3
 have d4 := (hb4.cell (p := ⟨B, 4, none⟩) hlB).trans b4
 have hp4 := HP4.out
 clear hb4 c_hd c_off lK fK b3 b4 hlB
 have c_hd := hp4.cell 16 _ rfl
 have c_off := hp4.cell 13 _ rfl
 have c_act := hp4.cell 28 _ rfl
 have c_fr := hp4.cell 39 _ rfl
 have lK := hp4.lt
 have fK := hp4.froz
 clear hp4
 by_cases g1 : p < b.lo
 ·clear HRNG
  go_wp2_with (first | (go_at_call 88; refine (qclamp_at _ _ _ q _ HQ.out).mono ?_; rintro e w' ⟨rfl, rfl⟩) | (go_at_call 87; refine (qsub_at _ _ oo true _ hac hq64 HV2.out HO2.out).mono ?_; rintro e w' ⟨rfl, rfl⟩))
  first
   | exact bodyPost_ret (results_none rfl _ _ _) rfl ⟨rfl, by rw [HEQ.out]; exact ⟨sv, nv, wv, cv, HP4.out⟩, HT4.out⟩
   | exact bodyPost_end (results_none rfl _ _ _) rfl ⟨rfl, by rw [HEQ.out]; exact ⟨sv, nv, wv, cv, HP4.out⟩, HT4.out⟩
 ·have g2 : b.hi < p := by omega
  clear HRNG
  go_wp2_with (first | (go_at_call 88; refine (qclamp_at _ _ _ q _ HQ.out).mono ?_; rintro e w' ⟨rfl, rfl⟩) | (go_at_call 87; refine (qsub_at _ _ oo true _ hac hq64 HV2.out HO2.out).mono ?_; rintro e w' ⟨rfl, rfl⟩))
  first
   | exact bodyPost_ret (results_none rfl _ _ _) rfl ⟨rfl, by rw [HEQ.out]; exact ⟨sv, nv, wv, cv, HP4.out⟩, HT4.out⟩
   | exact bodyPost_end (results_none rfl _ _ _) rfl ⟨rfl, by rw [HEQ.out]; exact ⟨sv, nv, wv, cv, HP4.out⟩, HT4.out⟩

set_option maxRecDepth 100000 in
theorem aon_e (s : WS) (K : Nat) (rv : Value) (W : World) (h : WK W K s rv) (hf : fitB (s.i.act - s.a.off) = true) (p : Int) (hpv : s.i.act - s.a.off = p) (hout : ¬ ((bndX s.a).lo ≤ p ∧ p ≤ (bndX s.a).hi)) (q : Int) (hq : max (-1099511627776) (min p 1099511627776) = q) (oo : Int) (hoo : s.i.act - q = oo) (hf2 : fitB oo = true) (g3 : ¬ oo < -288230376151711744) (g4 : ¬ 288230376151711744 < oo) :
  Calls Tryz.prog 63 #[.pointer (some ⟨K, 0, none⟩)] W fun x w' => x = .returned (.tuple #[]) ∧ WK w' K (onX s) rv ∧ Turn K rv rv W w' := by
 obtain ⟨sv, nv, wv, cv, hp⟩ := h
 have HP := Lib.hid hp
 have hac := hp.iw.act
 have hof : I64 s.a.off := ⟨by have := hp.inv.off; omega, by have := hp.inv.off; omega⟩
 have c_act := hp.cell 28 _ rfl
 have c_off := hp.cell 13 _ rfl
 have lK := hp.lt
 have fK := hp.froz
 clear hp
 have HEQ : Hid (onX s = { happX (placedX ({ s with a := { s.a with hd := false, off := oo } }) q) 1 with fr := true }) := Lib.hid (by unfold onX; dsimp only; rw [if_neg (by rw [hf]; decide), hpv, if_neg hout, hq, hoo]; rw [if_neg (by rw [hf2]; decide), if_pos (by omega)])
 have HQ := Lib.hid hq
 have HRNG := hout
 have HV : Hid (fitV (s.i.act - s.a.off) = p) := Lib.hid (by rw [fitV_of hf, hpv])
 have HO := Lib.hid hf
 have hq64 : I64 q := ⟨by omega, by omega⟩
 have hqb : -1099511627776 ≤ q ∧ q ≤ 1099511627776 := by omega
 have HQB := Lib.hid hqb
 have HO2 : Hid (fitB (s.i.act - q) = true) := Lib.hid (by rw [hoo]; exact hf2)
 have HV2 : Hid (fitV (s.i.act - q) = oo) := Lib.hid (by rw [hoo, fitV_of hf2])
 clear hf hpv hout hq hoo hf2 hqb
 go_enter Tryz.func63, Tryz.ntmps63
 go_wp2_with fail
 refine wp_region_ext (by kernel_rfl) (by kernel_rfl) ?_
 repeat (go_big_quiet_step (first | (go_at_call 87; exact ext_same (qsub_at _ _ p true _ hac hof HV.out HO.out))))
 refine wpQuiet_nil ?_
 intro w1 hb1
 replace hb1 := ext_below hb1
 have HP1 := Lib.hid (HP.out.below hb1)
 have HT1 : Hid (Turn K rv rv W w1) := Lib.hid (Turn.of_below hb1)
 clear hb1 c_act c_off lK fK
 obtain ⟨b, hb⟩ : ∃ b, bndX s.a = b := ⟨_, rfl⟩
 have HBN := Lib.hid hb
 rw [hb] at HRNG
 clear hb
 obtain ⟨L, hL⟩ := axL_some s.a sv nv wv
 have HAL := Lib.hid hL
 have HRG := Lib.hid (HP1.out.range hL)
 have lK1 := HP1.out.lt
 clear hL
 go_wp2_with (refine wpList_load_mid rfl 35 _ rfl K 0 rfl L _ HRG.out Tryz.underlying35 rfl HAL.out.size ?_)
 refine (abounds_L s.a sv nv wv L b w1 HAL.out HBN.out).mono ?_
 rintro e w2 ⟨rfl, hb2⟩
 have HP2 := Lib.hid (HP1.out.below hb2)
 have HT2 := Lib.hid (HT1.out.trans (Turn.of_below hb2))
 clear hb2 lK1
 go_upto_region 3 with (fail)
 refine wp_name fun W3 hW3 => ?_
 obtain ⟨B, hB⟩ : ∃ B, B = w2.heap.size := ⟨_, rfl⟩
 have hbel : Below w2.heap.size w2 W3 := by rw [hW3.out]; exact belowBy
 have hlB : B < W3.heap.size := by rw [hW3.out, hB]; simp
 have b3 : W3.cell? ⟨B, 3, none⟩ = some (.int .i64 b.lo) := by rw [hW3.out, hB]; go_simp
 have b4 : W3.cell? ⟨B, 4, none⟩ = some (.int .i64 b.hi) := by rw [hW3.out, hB]; go_simp
 have HP3 := Lib.hid (HP2.out.below hbel)
 have HT3 := Lib.hid (HT2.out.trans (Turn.of_below hbel))
 have hp3 := HP3.out
 have c_hd := hp3.cell 16 _ rfl
 have c_off := hp3.cell 13 _ rfl
 have lK := hp3.lt
 have fK := hp3.froz
 (try rw [← hB])
 (try simp only [Act.put])
 clear hW3 hbel hB hp3
 refine wp_region_ext (by kernel_rfl) (by kernel_rfl) ?_
 repeat (go_big_quiet_step (fail))
 refine wpQuiet_nil ?_
 intro w4 hb4
 replace hb4 := ext_below hb4
 have HP4 := Lib.hid (HP3.out.below hb4)
 have HT4 := Lib.hid (HT3.out.trans (Turn.of_below hb4))
 have hlB4 : B < w4.heap.size := Nat.lt_of_lt_of_le hlB hb4.size
 have d3 := (hb4.cell (p := ⟨B, 3, none⟩) hlB).trans b3
 have d4 := (hb4.cell (p := ⟨B, 4, none⟩) hlB).trans b4
 have hp4 := HP4.out
 clear hb4 c_hd c_off lK fK b3 b4 hlB
 have c_hd := hp4.cell 16 _ rfl
 have c_off := hp4.cell 13 _ rfl
 have c_act := hp4.cell 28 _ rfl
 have c_fr := hp4.cell 39 _ rfl
 have lK := hp4.lt
 have fK := hp4.froz
 clear hp4
 by_cases g1 : p < b.lo
 ·clear HRNG
  go_upto_region 10 with (first | (go_at_call 88; refine (qclamp_at _ _ _ q _ HQ.out).mono ?_; rintro e w' ⟨rfl, rfl⟩) | (go_at_call 87; refine (qsub_at _ _ oo true _ hac hq64 HV2.out HO2.out).mono ?_; rintro e w' ⟨rfl, rfl⟩))
  have HPL : Hid ((bndX ({ s with a := { s.a with hd := false, off := oo } } : WS).a).lo ≤ q ∧ q ≤ (bndX ({ s with a := { s.a with hd := false, off := oo } } : WS).a).hi) := Lib.hid HQB.out
  have HROO : Hid (-288230376151711744 ≤ oo ∧ oo ≤ 288230376151711744) := Lib.hid ⟨by omega, by omega⟩
  go_upto_region 11 with (fail)
  refine wp_name fun W5 hW5 => ?_
  have hf := HP4.out.put0 [(16, .bool false), (13, .int .i64 oo)] ({ s with a := { s.a with hd := false, off := oo } }) rfl rfl rfl rfl rfl (⟨HP.out.inv.lr, HP.out.inv.win, HP.out.inv.hat, HP.out.inv.hom, HP.out.inv.len, HP.out.inv.smr, safe_wide HP.out.inv.lr HP.out.inv.safe, HP.out.inv.line, HP.out.inv.cw, HP.out.inv.ov, HROO.out, HP.out.inv.sta, HP.out.inv.mas⟩) rfl
  have HP6 : Hid (WKp W5 K ({ s with a := { s.a with hd := false, off := oo } }) rv sv nv wv cv ∧ Turn K rv rv w4 W5) := Lib.hid (by rw [hW5.out]; exact hf)
  have HT6 := Lib.hid (HT4.out.trans HP6.out.2)
  clear hf hW5 c_hd c_off c_fr lK fK
  go_wp2_with fail
  refine (aplaced_at ({ s with a := { s.a with hd := false, off := oo } }) q K rv _ ⟨_, _, _, _, HP6.out.1⟩ HPL.out).mono ?_
  rintro e w6 ⟨rfl, hw6, ht6⟩
  have HW6 := Lib.hid hw6
  have HT7 := Lib.hid (HT6.out.trans ht6)
  clear hw6 ht6
  go_wp2_with fail
  refine (ahapp_at _ 1 K rv _ HW6.out).mono ?_
  rintro e w7 ⟨rfl, ⟨sv7, nv7, wv7, cv7, hp7⟩, ht7⟩
  have HP7 := Lib.hid hp7
  have HT8 := Lib.hid (HT7.out.trans ht7)
  have c_fr := hp7.cell 39 _ rfl
  have lK := hp7.lt
  have fK := hp7.froz
  clear hp7 ht7
  have hf := HP7.out.put0 [(39, .bool true)] (onX s) (by rw [HEQ.out]; rfl) (by rw [HEQ.out]) (by rw [HEQ.out]) (by rw [HEQ.out]) (by rw [HEQ.out]) (by rw [HEQ.out]; exact HP7.out.inv) (by rw [HEQ.out])
  have HF := Lib.hid hf
  clear hf
  go_wp2
  exact bodyPost_end (results_none rfl _ _ _) rfl ⟨rfl, ⟨sv7, nv7, wv7, cv7, HF.out.1⟩, HT8.out.trans HF.out.2⟩
 ·have g2 : b.hi < p := by omega
  clear HRNG
  go_upto_region 10 with (first | (go_at_call 88; refine (qclamp_at _ _ _ q _ HQ.out).mono ?_; rintro e w' ⟨rfl, rfl⟩) | (go_at_call 87; refine (qsub_at _ _ oo true _ hac hq64 HV2.out HO2.out).mono ?_; rintro e w' ⟨rfl, rfl⟩))
  have HPL : Hid ((bndX ({ s with a := { s.a with hd := false, off := oo } } : WS).a).lo ≤ q ∧ q ≤ (bndX ({ s with a := { s.a with hd := false, off := oo } } : WS).a).hi) := Lib.hid HQB.out
  have HROO : Hid (-288230376151711744 ≤ oo ∧ oo ≤ 288230376151711744) := Lib.hid ⟨by omega, by omega⟩
  go_upto_region 11 with (fail)
  refine wp_name fun W5 hW5 => ?_
  have hf := HP4.out.put0 [(16, .bool false), (13, .int .i64 oo)] ({ s with a := { s.a with hd := false, off := oo } }) rfl rfl rfl rfl rfl (⟨HP.out.inv.lr, HP.out.inv.win, HP.out.inv.hat, HP.out.inv.hom, HP.out.inv.len, HP.out.inv.smr, safe_wide HP.out.inv.lr HP.out.inv.safe, HP.out.inv.line, HP.out.inv.cw, HP.out.inv.ov, HROO.out, HP.out.inv.sta, HP.out.inv.mas⟩) rfl
  have HP6 : Hid (WKp W5 K ({ s with a := { s.a with hd := false, off := oo } }) rv sv nv wv cv ∧ Turn K rv rv w4 W5) := Lib.hid (by rw [hW5.out]; exact hf)
  have HT6 := Lib.hid (HT4.out.trans HP6.out.2)
  clear hf hW5 c_hd c_off c_fr lK fK
  go_wp2_with fail
  refine (aplaced_at ({ s with a := { s.a with hd := false, off := oo } }) q K rv _ ⟨_, _, _, _, HP6.out.1⟩ HPL.out).mono ?_
  rintro e w6 ⟨rfl, hw6, ht6⟩
  have HW6 := Lib.hid hw6
  have HT7 := Lib.hid (HT6.out.trans ht6)
  clear hw6 ht6
  go_wp2_with fail
  refine (ahapp_at _ 1 K rv _ HW6.out).mono ?_
  rintro e w7 ⟨rfl, ⟨sv7, nv7, wv7, cv7, hp7⟩, ht7⟩
  have HP7 := Lib.hid hp7
  have HT8 := Lib.hid (HT7.out.trans ht7)
  have c_fr := hp7.cell 39 _ rfl
  have lK := hp7.lt
  have fK := hp7.froz
  clear hp7 ht7
  have hf := HP7.out.put0 [(39, .bool true)] (onX s) (by rw [HEQ.out]; rfl) (by rw [HEQ.out]) (by rw [HEQ.out]) (by rw [HEQ.out]) (by rw [HEQ.out]) (by rw [HEQ.out]; exact HP7.out.inv) (by rw [HEQ.out])
  have HF := Lib.hid hf
  clear hf
  go_wp2
  exact bodyPost_end (results_none rfl _ _ _) rfl ⟨rfl, ⟨sv7, nv7, wv7, cv7, HF.out.1⟩, HT8.out.trans HF.out.2⟩

theorem aon_at (s : WS) (K : Nat) (rv : Value) (W : World) (h : WK W K s rv) :
  Calls Tryz.prog 63 #[.pointer (some ⟨K, 0, none⟩)] W fun x w' => x = .returned (.tuple #[]) ∧ WK w' K (onX s) rv ∧ Turn K rv rv W w' := by
 cases hf : fitB (s.i.act - s.a.off)
 ·exact aon_a s K rv W h hf
 ·by_cases hin : (bndX s.a).lo ≤ s.i.act - s.a.off ∧ s.i.act - s.a.off ≤ (bndX s.a).hi
  ·exact aon_b s K rv W h hf _ rfl hin
  ·cases hf2 : fitB (s.i.act - max (-1099511627776) (min (s.i.act - s.a.off) 1099511627776))
   ·exact aon_c s K rv W h hf _ rfl hin _ rfl _ rfl hf2
   ·by_cases g3 : s.i.act - max (-1099511627776) (min (s.i.act - s.a.off) 1099511627776) < -288230376151711744
    ·exact aon_d1 s K rv W h hf _ rfl hin _ rfl _ rfl hf2 g3
    ·by_cases g4 : 288230376151711744 < s.i.act - max (-1099511627776) (min (s.i.act - s.a.off) 1099511627776)
     ·exact aon_d2 s K rv W h hf _ rfl hin _ rfl _ rfl hf2 g3 g4
     ·exact aon_e s K rv W h hf _ rfl hin _ rfl _ rfl hf2 g3 g4

end Go.Proofs.YthhfnageadckkaaGreat
