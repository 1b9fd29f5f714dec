/- Merged: Layer 15: what has come to its end: a stop. PRINTED by wip/tool/mkends.py Layer 15: what has come to its end: a move. PRINTED by wip/tool/mkends.py -/
import Derived.Test.YthhfnageadckkaaGreatM21
set_option linter.unusedVariables false
set_option linter.unusedSimpArgs false
set_option maxHeartbeats 8000000
namespace Go.Proofs.YthhfnageadckkaaGreat
open Go.RowKit
attribute [local go_sem] ite_max ite_min vite_max vite_min ext_cell ext_frozen

set_option maxRecDepth 100000 in
theorem aends3 (s : WS) (p : Bool) (K : Nat) (rv : Value) (W : World) (h : WK W K s rv) (hl : s.rs.length + 5 ≤ 2000) (hst : s.a.st = 3) :
  Calls Tryz.prog 33 #[.pointer (some ⟨K, 0, none⟩), .bool p] W fun x w' => x = .returned (.tuple #[]) ∧ ∃ rv', WK w' K (endsX s p) rv' ∧ Turn K rv rv' W w' := by
 have HW := Lib.hid h
 have HL := Lib.hid hl
 obtain ⟨x, o, hu⟩ : ∃ x o, underX s.a = ⟨x, o⟩ := ⟨_, _, rfl⟩
 have HU := Lib.hid hu
 clear h hl hu
 have HE : Hid (endsX s p = if stillX s.a = false then s else if o = true then tellX (lineX s (endR s.a.ns s.a.ws).ns (endR s.a.ns s.a.ws).ws) 2 [(endR s.a.ns s.a.ws).id] else if s.i.rel = true then happX s 9 else s) := Lib.hid (by
  unfold endsX
  rw [if_neg (by omega), if_pos hst, HU.out])
 have HSTT := Lib.hid hst
 clear hst
 go_enter Tryz.func33, Tryz.ntmps33
 go_wp2_with fail
 refine (aunder_at s ⟨x, o⟩ K rv _ HW.out HU.out).mono ?_
 simp only [CmdS.val]
 rintro e w5 ⟨rfl, hb5⟩
 have HW5 := Lib.hid (HW.out.below hb5)
 have HT5 : Hid (Turn K rv rv W w5) := Lib.hid (Turn.of_below hb5)
 clear hb5
 go_upto_region 1 with (fail)
 refine wp_name fun W6 hW6 => ?_
 obtain ⟨B6, hB6⟩ : ∃ B, B = w5.heap.size := ⟨_, rfl⟩
 have hbel6 : Below w5.heap.size w5 W6 := by rw [hW6.out]; exact belowBy
 have hl6 : B6 < W6.heap.size := by rw [hW6.out, hB6]; simp
 have x1 : W6.cell? ⟨B6, 1, none⟩ = some (.int .i64 x.kind) := by rw [hW6.out, hB6]; go_simp
 have x2 : W6.cell? ⟨B6, 2, none⟩ = some (.int .i64 x.target) := by rw [hW6.out, hB6]; go_simp
 have HW6 := Lib.hid (HW5.out.below hbel6)
 have HT6 := Lib.hid (HT5.out.trans (Turn.of_below hbel6))
 (try rw [← hB6])
 (try simp only [Act.put])
 clear hW6 hbel6 hB6 HW5 HT5
 obtain ⟨sv, nv, wv, cv, hp⟩ := HW6.out
 have HP := Lib.hid hp
 have HRT : Hid (rightW s.a.sm s.a.sm.length = true) := Lib.hid hp.inv.smr
 obtain ⟨L, hL⟩ := axL_some s.a sv nv wv
 have HAL := Lib.hid hL
 have HRG : Hid (∀ W', Below W6.heap.size W6 W' → W'.rangeAt K 0 L) := Lib.hid (fun W' hb => (hp.below hb).range hL)
 have HST : Hid (∀ W' r, Below W6.heap.size W6 W' → stillX s.a = r → Calls Tryz.prog 60 #[.agg L.toArray] W' fun e w' => e = .returned (.bool r) ∧ Below W'.heap.size W' w') := Lib.hid (fun W' r hb hr => astill_L s.a sv nv wv L r W' hL (hp.sm.below hb) (by have := rightW_yes hp.inv.smr; omega) hr)
 clear hL
 have c_st := hp.cell 0 _ rfl
 have c_rel := hp.cell 34 _ rfl
 have lK := hp.lt
 have fK := hp.froz
 clear hp
 rw [HSTT.out] at c_st
 cases hq : stillX s.a
 ·have HEQ : Hid (endsX s p = s) := Lib.hid (by rw [HE.out, hq, if_pos rfl])
  have HQ := Lib.hid hq
  clear hq
  go_wp2_with (refine wpList_load_mid rfl 35 _ rfl K 0 rfl L _ (HRG.out _ (Below.refl _ _)) Tryz.underlying35 rfl HAL.out.size ?_)
  refine (HST.out _ false (Below.refl _ _) HQ.out).mono ?_
  rintro e w7 ⟨rfl, hb7⟩
  have HW7 := Lib.hid (HW6.out.below hb7)
  have HT7 : Hid (Turn K rv rv W w7) := Lib.hid (HT6.out.trans (Turn.of_below hb7))
  clear hb7
  go_wp2
  first
   | exact bodyPost_ret (results_none rfl _ _ _) rfl ⟨rfl, rv, by rw [HEQ.out]; exact HW7.out, HT7.out⟩
   | exact bodyPost_end (results_none rfl _ _ _) rfl ⟨rfl, rv, by rw [HEQ.out]; exact HW7.out, HT7.out⟩
 ·have HE : Hid (endsX s p = if o = true then tellX (lineX s (endR s.a.ns s.a.ws).ns (endR s.a.ns s.a.ws).ws) 2 [(endR s.a.ns s.a.ws).id] else if s.i.rel = true then happX s 9 else s) := Lib.hid (by rw [HE.out, hq, if_neg (by decide)])
  have HQ := Lib.hid hq
  clear hq
  obtain ⟨rl, hrl⟩ : ∃ q, s.i.rel = q := ⟨_, rfl⟩
  have HRL := Lib.hid hrl
  rw [hrl] at c_rel
  clear hrl
  cases o
  ·cases rl
   ·have HEQ : Hid (endsX s p = s) := Lib.hid (by rw [HE.out, HRL.out]; rfl)
    go_wp2_with (refine wpList_load_mid rfl 35 _ rfl K 0 rfl L _ (HRG.out _ (Below.refl _ _)) Tryz.underlying35 rfl HAL.out.size ?_)
    refine (HST.out _ true (Below.refl _ _) HQ.out).mono ?_
    rintro e w7 ⟨rfl, hb7⟩
    have HW7 := Lib.hid (HW6.out.below hb7)
    have HT7 : Hid (Turn K rv rv W w7) := Lib.hid (HT6.out.trans (Turn.of_below hb7))
    have crel := (hb7.cell (p := ⟨K, 34, none⟩) lK).trans c_rel
    clear hb7
    go_wp2
    first
     | exact bodyPost_ret (results_none rfl _ _ _) rfl ⟨rfl, rv, by rw [HEQ.out]; exact HW7.out, HT7.out⟩
     | exact bodyPost_end (results_none rfl _ _ _) rfl ⟨rfl, rv, by rw [HEQ.out]; exact HW7.out, HT7.out⟩
   ·have HEQ : Hid (endsX s p = happX s 9) := Lib.hid (by rw [HE.out, HRL.out]; rfl)
    go_wp2_with (refine wpList_load_mid rfl 35 _ rfl K 0 rfl L _ (HRG.out _ (Below.refl _ _)) Tryz.underlying35 rfl HAL.out.size ?_)
    refine (HST.out _ true (Below.refl _ _) HQ.out).mono ?_
    rintro e w7 ⟨rfl, hb7⟩
    have HW7 := Lib.hid (HW6.out.below hb7)
    have HT7 : Hid (Turn K rv rv W w7) := Lib.hid (HT6.out.trans (Turn.of_below hb7))
    have crel := (hb7.cell (p := ⟨K, 34, none⟩) lK).trans c_rel
    clear hb7
    go_wp2_with fail
    refine (ahapp_at s 9 K rv _ HW7.out).mono ?_
    rintro e w8 ⟨rfl, hw8, ht8⟩
    have HW8 := Lib.hid hw8
    have HT8 := Lib.hid (HT7.out.trans ht8)
    clear hw8 ht8
    go_wp2
    first
     | exact bodyPost_ret (results_none rfl _ _ _) rfl ⟨rfl, rv, by rw [HEQ.out]; exact HW8.out, HT8.out⟩
     | exact bodyPost_end (results_none rfl _ _ _) rfl ⟨rfl, rv, by rw [HEQ.out]; exact HW8.out, HT8.out⟩
  ·obtain ⟨r, hr⟩ : ∃ r, endR s.a.ns s.a.ws = r := ⟨_, rfl⟩
   have HEQ : Hid (endsX s p = tellX (lineX s r.ns r.ws) 2 [r.id]) := Lib.hid (by rw [HE.out, if_pos rfl, hr])
   have HR := Lib.hid hr
   have HIE : Hid (AxI (lineX s r.ns r.ws).a) := Lib.hid (by rw [← hr]; exact inv_end HP.out.inv)
   clear hr
   go_wp2_with (refine wpList_load_mid rfl 35 _ rfl K 0 rfl L _ (HRG.out _ (Below.refl _ _)) Tryz.underlying35 rfl HAL.out.size ?_)
   refine (HST.out _ true (Below.refl _ _) HQ.out).mono ?_
   rintro e w7 ⟨rfl, hb7⟩
   have HP7 := Lib.hid (HP.out.below hb7)
   have HT7 : Hid (Turn K rv rv W w7) := Lib.hid (HT6.out.trans (Turn.of_below hb7))
   clear hb7
   have hp7 := HP7.out
   clear c_st c_rel lK fK
   have c_nv := hp7.cell 14 _ rfl
   have c_wv := hp7.cell 15 _ rfl
   have lK := hp7.lt
   have fK := hp7.froz
   clear hp7
   go_wp2_with fail
   refine (lend_at s.a.ns s.a.ws _ 0 _ HP7.out.ln).mono ?_
   rw [HR.out]
   rintro e w1 ⟨v, rfl, hl1, hb1⟩
   obtain ⟨A1, d1, A2, d2, rfl⟩ := hl1.slices
   have HP1 := Lib.hid (HP7.out.below hb1)
   have HB1 := Lib.hid hb1
   obtain ⟨n1, hn1⟩ : ∃ n, r.ns.length = n := ⟨_, rfl⟩
   obtain ⟨n2, hn2⟩ : ∃ n, r.ws.length = n := ⟨_, rfl⟩
   have HL1' : Hid (LineV w1 w7.heap.size r.ns r.ws (.agg #[.slice A1 n1 d1, .slice A2 n2 d2])) := Lib.hid (by rw [← hn1, ← hn2]; exact hl1)
   rw [hn1, hn2]
   clear c_nv c_wv lK fK hl1 hb1 hn1 hn2
   go_upto_region 9 with (fail)
   refine wp_name fun W2 hW2 => ?_
   obtain ⟨B, hB⟩ : ∃ B, B = w1.heap.size := ⟨_, rfl⟩
   have hbel : Below w1.heap.size w1 W2 := by rw [hW2.out]; exact belowBy
   have hlB : B < W2.heap.size := by rw [hW2.out, hB]; simp
   have c0 : W2.cell? ⟨B, 0, none⟩ = some (.slice A1 n1 d1) := by rw [hW2.out, hB]; go_simp
   have c1 : W2.cell? ⟨B, 1, none⟩ = some (.slice A2 n2 d2) := by rw [hW2.out, hB]; go_simp
   have HB2 := Lib.hid hbel
   have HP2 := Lib.hid (HP1.out.below hbel)
   have HT2 : Hid (Turn K rv rv W W2) := Lib.hid (HT7.out.trans ((Turn.of_below HB1.out).trans (Turn.of_below hbel)))
   have hp2 := HP2.out
   have c_nv := hp2.cell 14 _ rfl
   have c_wv := hp2.cell 15 _ rfl
   have lK := hp2.lt
   have fK := hp2.froz
   (try rw [← hB])
   (try simp only [Act.put])
   clear hW2 hbel hB hp2
   go_upto_region 10 with (fail)
   refine wp_name fun W3 hW3 => ?_
   have hln : LineV W2 0 r.ns r.ws (.agg #[.slice A1 n1 d1, .slice A2 n2 d2]) := (HL1'.out.below HB2.out).base0 (Nat.zero_le _)
   have han := ApW.new_line HP7.out HL1'.out (Nat.le_refl _)
   have hf := HP2.out.putN [(14, .slice A1 n1 d1), (15, .slice A2 n2 d2)] (lineX s r.ns r.ws) rfl HP2.out.sm hln HP2.out.a1 han.1 han.2 rfl HIE.out rfl
   have HP3 : Hid (WKp W3 K (lineX s r.ns r.ws) rv sv (.slice A1 n1 d1) (.slice A2 n2 d2) cv ∧ Turn K rv rv W2 W3) := Lib.hid (by rw [hW3.out]; exact hf)
   have HT3 := Lib.hid (HT2.out.trans HP3.out.2)
   have lK3 := HP3.out.1.lt
   clear hf hW3 hln han c0 c1 hlB c_nv c_wv lK fK
   go_wp2_with fail
   refine (atell_at (lineX s r.ns r.ws) 2 [r.id] _ K rv _ ⟨_, _, _, _, HP3.out.1.below (below_new (Below.refl _ _) (Nat.le_refl _) _)⟩ SmV.one (ApV.new_row HP3.out.1 (Nat.le_refl _) _ _) (by have := HL.out; show s.rs.length + 1 ≤ 2000; omega)).mono ?_
   rintro e w8 ⟨rfl, rv8, hw8, ht8⟩
   have HW8 := Lib.hid hw8
   have HT8 : Hid (Turn K rv rv8 W w8) := Lib.hid (HT3.out.trans ((Turn.of_below (below_new (Below.refl _ _) (Nat.le_refl _) _)).trans ht8))
   clear hw8 ht8 lK3
   go_wp2
   first
    | exact bodyPost_ret (results_none rfl _ _ _) rfl ⟨rfl, rv8, by rw [HEQ.out]; exact HW8.out, HT8.out⟩
    | exact bodyPost_end (results_none rfl _ _ _) rfl ⟨rfl, rv8, by rw [HEQ.out]; exact HW8.out, HT8.out⟩


set_option maxRecDepth 100000 in
theorem aends4a (s : WS) (p : Bool) (K : Nat) (rv : Value) (W : World) (h : WK W K s rv) (hl : s.rs.length + 5 ≤ 2000) (hst : s.a.st = 4) (ho : (underX s.a).ok = false) :
  Calls Tryz.prog 33 #[.pointer (some ⟨K, 0, none⟩), .bool p] W fun x w' => x = .returned (.tuple #[]) ∧ ∃ rv', WK w' K (endsX s p) rv' ∧ Turn K rv rv' W w' := by
 have HW := Lib.hid h
 have HL := Lib.hid hl
 obtain ⟨x, o, hu⟩ : ∃ x o, underX s.a = ⟨x, o⟩ := ⟨_, _, rfl⟩
 have HU := Lib.hid hu
 clear h hl hu
 have HE : Hid (endsX s p = if (o && (p || (stillX s.a && (decide (x.kind ≠ 1) || decide (x.target = s.a.g.p))))) = true then doneX s 10 else s) := Lib.hid (by
  unfold endsX
  rw [if_pos hst, HU.out])
 rw [HU.out] at ho
 dsimp only at ho
 subst ho
 have HEQ : Hid (endsX s p = s) := Lib.hid (by
  rw [HE.out]
  rfl)
 have HSTT := Lib.hid hst
 clear hst
 go_enter Tryz.func33, Tryz.ntmps33
 go_wp2_with fail
 refine (aunder_at s ⟨x, false⟩ K rv _ HW.out HU.out).mono ?_
 simp only [CmdS.val]
 rintro e w5 ⟨rfl, hb5⟩
 have HW5 := Lib.hid (HW.out.below hb5)
 have HT5 : Hid (Turn K rv rv W w5) := Lib.hid (Turn.of_below hb5)
 clear hb5
 go_upto_region 1 with (fail)
 refine wp_name fun W6 hW6 => ?_
 obtain ⟨B6, hB6⟩ : ∃ B, B = w5.heap.size := ⟨_, rfl⟩
 have hbel6 : Below w5.heap.size w5 W6 := by rw [hW6.out]; exact belowBy
 have hl6 : B6 < W6.heap.size := by rw [hW6.out, hB6]; simp
 have x1 : W6.cell? ⟨B6, 1, none⟩ = some (.int .i64 x.kind) := by rw [hW6.out, hB6]; go_simp
 have x2 : W6.cell? ⟨B6, 2, none⟩ = some (.int .i64 x.target) := by rw [hW6.out, hB6]; go_simp
 have HW6 := Lib.hid (HW5.out.below hbel6)
 have HT6 := Lib.hid (HT5.out.trans (Turn.of_below hbel6))
 (try rw [← hB6])
 (try simp only [Act.put])
 clear hW6 hbel6 hB6 HW5 HT5
 obtain ⟨sv, nv, wv, cv, hp⟩ := HW6.out
 have HP := Lib.hid hp
 have HRT : Hid (rightW s.a.sm s.a.sm.length = true) := Lib.hid hp.inv.smr
 obtain ⟨L, hL⟩ := axL_some s.a sv nv wv
 have HAL := Lib.hid hL
 have HRG : Hid (∀ W', Below W6.heap.size W6 W' → W'.rangeAt K 0 L) := Lib.hid (fun W' hb => (hp.below hb).range hL)
 have HST : Hid (∀ W' r, Below W6.heap.size W6 W' → stillX s.a = r → Calls Tryz.prog 60 #[.agg L.toArray] W' fun e w' => e = .returned (.bool r) ∧ Below W'.heap.size W' w') := Lib.hid (fun W' r hb hr => astill_L s.a sv nv wv L r W' hL (hp.sm.below hb) (by have := rightW_yes hp.inv.smr; omega) hr)
 clear hL
 have c_st := hp.cell 0 _ rfl
 have lK := hp.lt
 have fK := hp.froz
 rw [HSTT.out] at c_st
 have HCL : Hid (∀ W', Below W6.heap.size W6 W' → W'.cell? ⟨B6, 1, none⟩ = some (.int .i64 x.kind) ∧ W'.cell? ⟨B6, 2, none⟩ = some (.int .i64 x.target) ∧ WKp W' K s rv sv nv wv cv) := Lib.hid (fun W' hb => ⟨(hb.cell (p := ⟨B6, 1, none⟩) hl6).trans x1, (hb.cell (p := ⟨B6, 2, none⟩) hl6).trans x2, HP.out.below hb⟩)
 clear hp
 go_wp2_with fail
 refine wp_region_held_drew (S := fun w' => Below W6.heap.size W6 w') (by kernel_rfl) ?_ (fun hHeld => ?_)
 ·exact (Below.refl _ _).drew
 refine tT 0 ?_ rfl ?_ ?_; rotate_left; (focus intros; go_simp; try rfl)
 refine tT 1 ?_ rfl ?_ ?_; rotate_left; (focus intros; go_simp; try rfl)
 (refine takeU (i := 2) rfl ?_; (try simp only [ly]))
 (refine takeU (i := 3) rfl ?_)
 (refine takeU (i := 4) rfl ?_)
 (refine takeU (i := 5) rfl ?_; (try simp only [ly]))
 (refine takeU (i := 6) rfl ?_)
 (refine takeU (i := 7) rfl ?_)
 (refine takeU (i := 8) rfl ?_; (try simp only [ly]))
 (refine takeU (i := 9) rfl ?_)
 (refine takeU (i := 10) rfl ?_)
 (refine takeU (i := 11) rfl ?_; (try simp only [ly]))
 (refine takeU (i := 12) rfl ?_)
 (refine takeU (i := 13) rfl ?_)
 (refine takeU (i := 14) rfl ?_; (try simp only [ly]))
 (refine takeU (i := 15) rfl ?_)
 (refine takeU (i := 16) rfl ?_)
 (refine takeU (i := 17) rfl ?_; (try simp only [ly]))
 (refine takeU (i := 18) rfl ?_)
 (refine takeU (i := 19) rfl ?_)
 (refine takeU (i := 20) rfl ?_; (try simp only [ly]))
 (refine takeU (i := 21) rfl ?_)
 (refine takeU (i := 22) rfl ?_)
 (refine takeU (i := 23) rfl ?_; (try simp only [ly]))
 (refine takeU (i := 24) rfl ?_)
 (refine takeU (i := 25) rfl ?_)
 refine tT 26 ?_ rfl ?_ ?_; rotate_left; (focus intros; go_simp; try rfl); (try simp only [ly])
 refine wpAnyH_done (by kernel_rfl) ?_ _
 (try simp only [ly])
 have HW7 := Lib.hid (HW6.out.below hHeld)
 have HT6 : Hid (Turn K rv rv W _) := Lib.hid (HT6.out.trans (Turn.of_below hHeld))
 clear hHeld HW6
 go_wp2
 first
  | exact bodyPost_ret (results_none rfl _ _ _) rfl ⟨rfl, rv, by rw [HEQ.out]; exact HW7.out, HT6.out⟩
  | exact bodyPost_end (results_none rfl _ _ _) rfl ⟨rfl, rv, by rw [HEQ.out]; exact HW7.out, HT6.out⟩

set_option maxRecDepth 100000 in
theorem aends4b (s : WS) (p : Bool) (K : Nat) (rv : Value) (W : World) (h : WK W K s rv) (hl : s.rs.length + 5 ≤ 2000) (hst : s.a.st = 4) (ho : (underX s.a).ok = true) (hpp : p = true) :
  Calls Tryz.prog 33 #[.pointer (some ⟨K, 0, none⟩), .bool p] W fun x w' => x = .returned (.tuple #[]) ∧ ∃ rv', WK w' K (endsX s p) rv' ∧ Turn K rv rv' W w' := by
 have HW := Lib.hid h
 have HL := Lib.hid hl
 obtain ⟨x, o, hu⟩ : ∃ x o, underX s.a = ⟨x, o⟩ := ⟨_, _, rfl⟩
 have HU := Lib.hid hu
 clear h hl hu
 have HE : Hid (endsX s p = if (o && (p || (stillX s.a && (decide (x.kind ≠ 1) || decide (x.target = s.a.g.p))))) = true then doneX s 10 else s) := Lib.hid (by
  unfold endsX
  rw [if_pos hst, HU.out])
 rw [HU.out] at ho
 dsimp only at ho
 subst ho hpp
 have HEQ : Hid (endsX s true = doneX s 10) := Lib.hid (by
  rw [HE.out]
  rfl)
 have HSTT := Lib.hid hst
 clear hst
 go_enter Tryz.func33, Tryz.ntmps33
 go_wp2_with fail
 refine (aunder_at s ⟨x, true⟩ K rv _ HW.out HU.out).mono ?_
 simp only [CmdS.val]
 rintro e w5 ⟨rfl, hb5⟩
 have HW5 := Lib.hid (HW.out.below hb5)
 have HT5 : Hid (Turn K rv rv W w5) := Lib.hid (Turn.of_below hb5)
 clear hb5
 go_upto_region 1 with (fail)
 refine wp_name fun W6 hW6 => ?_
 obtain ⟨B6, hB6⟩ : ∃ B, B = w5.heap.size := ⟨_, rfl⟩
 have hbel6 : Below w5.heap.size w5 W6 := by rw [hW6.out]; exact belowBy
 have hl6 : B6 < W6.heap.size := by rw [hW6.out, hB6]; simp
 have x1 : W6.cell? ⟨B6, 1, none⟩ = some (.int .i64 x.kind) := by rw [hW6.out, hB6]; go_simp
 have x2 : W6.cell? ⟨B6, 2, none⟩ = some (.int .i64 x.target) := by rw [hW6.out, hB6]; go_simp
 have HW6 := Lib.hid (HW5.out.below hbel6)
 have HT6 := Lib.hid (HT5.out.trans (Turn.of_below hbel6))
 (try rw [← hB6])
 (try simp only [Act.put])
 clear hW6 hbel6 hB6 HW5 HT5
 obtain ⟨sv, nv, wv, cv, hp⟩ := HW6.out
 have HP := Lib.hid hp
 have HRT : Hid (rightW s.a.sm s.a.sm.length = true) := Lib.hid hp.inv.smr
 obtain ⟨L, hL⟩ := axL_some s.a sv nv wv
 have HAL := Lib.hid hL
 have HRG : Hid (∀ W', Below W6.heap.size W6 W' → W'.rangeAt K 0 L) := Lib.hid (fun W' hb => (hp.below hb).range hL)
 have HST : Hid (∀ W' r, Below W6.heap.size W6 W' → stillX s.a = r → Calls Tryz.prog 60 #[.agg L.toArray] W' fun e w' => e = .returned (.bool r) ∧ Below W'.heap.size W' w') := Lib.hid (fun W' r hb hr => astill_L s.a sv nv wv L r W' hL (hp.sm.below hb) (by have := rightW_yes hp.inv.smr; omega) hr)
 clear hL
 have c_st := hp.cell 0 _ rfl
 have lK := hp.lt
 have fK := hp.froz
 rw [HSTT.out] at c_st
 have HCL : Hid (∀ W', Below W6.heap.size W6 W' → W'.cell? ⟨B6, 1, none⟩ = some (.int .i64 x.kind) ∧ W'.cell? ⟨B6, 2, none⟩ = some (.int .i64 x.target) ∧ WKp W' K s rv sv nv wv cv) := Lib.hid (fun W' hb => ⟨(hb.cell (p := ⟨B6, 1, none⟩) hl6).trans x1, (hb.cell (p := ⟨B6, 2, none⟩) hl6).trans x2, HP.out.below hb⟩)
 clear hp
 go_wp2_with fail
 refine wp_region_held_drew (S := fun w' => Below W6.heap.size W6 w') (by kernel_rfl) ?_ (fun hHeld => ?_)
 ·exact (Below.refl _ _).drew
 refine tT 0 ?_ rfl ?_ ?_; rotate_left; (focus intros; go_simp; try rfl)
 refine tT 1 ?_ rfl ?_ ?_; rotate_left; (focus intros; go_simp; try rfl)
 refine tT 2 ?_ rfl ?_ ?_; rotate_left; (focus intros; go_simp; try rfl); (try simp only [ly])
 refine tT 3 ?_ rfl ?_ ?_; rotate_left; (focus intros; go_simp; try rfl)
 (refine takeU (i := 4) rfl ?_)
 (refine takeU (i := 5) rfl ?_; (try simp only [ly]))
 (refine takeU (i := 6) rfl ?_)
 (refine takeU (i := 7) rfl ?_)
 (refine takeU (i := 8) rfl ?_; (try simp only [ly]))
 (refine takeU (i := 9) rfl ?_)
 (refine takeU (i := 10) rfl ?_)
 (refine takeU (i := 11) rfl ?_; (try simp only [ly]))
 (refine takeU (i := 12) rfl ?_)
 (refine takeU (i := 13) rfl ?_)
 (refine takeU (i := 14) rfl ?_; (try simp only [ly]))
 (refine takeU (i := 15) rfl ?_)
 (refine takeU (i := 16) rfl ?_)
 (refine takeU (i := 17) rfl ?_; (try simp only [ly]))
 (refine takeU (i := 18) rfl ?_)
 (refine takeU (i := 19) rfl ?_)
 (refine takeU (i := 20) rfl ?_; (try simp only [ly]))
 (refine takeU (i := 21) rfl ?_)
 (refine takeU (i := 22) rfl ?_)
 (refine takeU (i := 23) rfl ?_; (try simp only [ly]))
 (refine takeU (i := 24) rfl ?_)
 refine tT 25 ?_ rfl ?_ ?_; rotate_left; (focus intros; go_simp; try rfl)
 refine tT 26 ?_ rfl ?_ ?_; rotate_left; (focus intros; go_simp; try rfl); (try simp only [ly])
 refine wpAnyH_done (by kernel_rfl) ?_ _
 (try simp only [ly])
 have HW7 := Lib.hid (HW6.out.below hHeld)
 have HT6 : Hid (Turn K rv rv W _) := Lib.hid (HT6.out.trans (Turn.of_below hHeld))
 clear hHeld HW6
 go_wp2_with fail
 refine (adone_at s 10 K rv _ HW7.out (by have := HL.out; omega)).mono ?_
 rintro e w8 ⟨rfl, rv8, hw8, ht8⟩
 have HW8 := Lib.hid hw8
 have HT8 := Lib.hid (HT6.out.trans ht8)
 clear hw8 ht8
 go_wp2
 first
  | exact bodyPost_ret (results_none rfl _ _ _) rfl ⟨rfl, rv8, by rw [HEQ.out]; exact HW8.out, HT8.out⟩
  | exact bodyPost_end (results_none rfl _ _ _) rfl ⟨rfl, rv8, by rw [HEQ.out]; exact HW8.out, HT8.out⟩

set_option maxRecDepth 100000 in
theorem aends4c (s : WS) (p : Bool) (K : Nat) (rv : Value) (W : World) (h : WK W K s rv) (hl : s.rs.length + 5 ≤ 2000) (hst : s.a.st = 4) (ho : (underX s.a).ok = true) (hpp : p = false) (hq : stillX s.a = false) :
  Calls Tryz.prog 33 #[.pointer (some ⟨K, 0, none⟩), .bool p] W fun x w' => x = .returned (.tuple #[]) ∧ ∃ rv', WK w' K (endsX s p) rv' ∧ Turn K rv rv' W w' := by
 have HW := Lib.hid h
 have HL := Lib.hid hl
 obtain ⟨x, o, hu⟩ : ∃ x o, underX s.a = ⟨x, o⟩ := ⟨_, _, rfl⟩
 have HU := Lib.hid hu
 clear h hl hu
 have HE : Hid (endsX s p = if (o && (p || (stillX s.a && (decide (x.kind ≠ 1) || decide (x.target = s.a.g.p))))) = true then doneX s 10 else s) := Lib.hid (by
  unfold endsX
  rw [if_pos hst, HU.out])
 rw [HU.out] at ho
 dsimp only at ho
 subst ho hpp
 have HEQ : Hid (endsX s false = s) := Lib.hid (by
  rw [HE.out]
  rw [hq]
  rfl)
 have HQ := Lib.hid hq
 clear hq
 have HSTT := Lib.hid hst
 clear hst
 go_enter Tryz.func33, Tryz.ntmps33
 go_wp2_with fail
 refine (aunder_at s ⟨x, true⟩ K rv _ HW.out HU.out).mono ?_
 simp only [CmdS.val]
 rintro e w5 ⟨rfl, hb5⟩
 have HW5 := Lib.hid (HW.out.below hb5)
 have HT5 : Hid (Turn K rv rv W w5) := Lib.hid (Turn.of_below hb5)
 clear hb5
 go_upto_region 1 with (fail)
 refine wp_name fun W6 hW6 => ?_
 obtain ⟨B6, hB6⟩ : ∃ B, B = w5.heap.size := ⟨_, rfl⟩
 have hbel6 : Below w5.heap.size w5 W6 := by rw [hW6.out]; exact belowBy
 have hl6 : B6 < W6.heap.size := by rw [hW6.out, hB6]; simp
 have x1 : W6.cell? ⟨B6, 1, none⟩ = some (.int .i64 x.kind) := by rw [hW6.out, hB6]; go_simp
 have x2 : W6.cell? ⟨B6, 2, none⟩ = some (.int .i64 x.target) := by rw [hW6.out, hB6]; go_simp
 have HW6 := Lib.hid (HW5.out.below hbel6)
 have HT6 := Lib.hid (HT5.out.trans (Turn.of_below hbel6))
 (try rw [← hB6])
 (try simp only [Act.put])
 clear hW6 hbel6 hB6 HW5 HT5
 obtain ⟨sv, nv, wv, cv, hp⟩ := HW6.out
 have HP := Lib.hid hp
 have HRT : Hid (rightW s.a.sm s.a.sm.length = true) := Lib.hid hp.inv.smr
 obtain ⟨L, hL⟩ := axL_some s.a sv nv wv
 have HAL := Lib.hid hL
 have HRG : Hid (∀ W', Below W6.heap.size W6 W' → W'.rangeAt K 0 L) := Lib.hid (fun W' hb => (hp.below hb).range hL)
 have HST : Hid (∀ W' r, Below W6.heap.size W6 W' → stillX s.a = r → Calls Tryz.prog 60 #[.agg L.toArray] W' fun e w' => e = .returned (.bool r) ∧ Below W'.heap.size W' w') := Lib.hid (fun W' r hb hr => astill_L s.a sv nv wv L r W' hL (hp.sm.below hb) (by have := rightW_yes hp.inv.smr; omega) hr)
 clear hL
 have c_st := hp.cell 0 _ rfl
 have lK := hp.lt
 have fK := hp.froz
 rw [HSTT.out] at c_st
 have HCL : Hid (∀ W', Below W6.heap.size W6 W' → W'.cell? ⟨B6, 1, none⟩ = some (.int .i64 x.kind) ∧ W'.cell? ⟨B6, 2, none⟩ = some (.int .i64 x.target) ∧ WKp W' K s rv sv nv wv cv) := Lib.hid (fun W' hb => ⟨(hb.cell (p := ⟨B6, 1, none⟩) hl6).trans x1, (hb.cell (p := ⟨B6, 2, none⟩) hl6).trans x2, HP.out.below hb⟩)
 clear hp
 go_wp2_with fail
 refine wp_region_held_drew (S := fun w' => Below W6.heap.size W6 w') (by kernel_rfl) ?_ (fun hHeld => ?_)
 ·exact (Below.refl _ _).drew
 refine tT 0 ?_ rfl ?_ ?_; rotate_left; (focus intros; go_simp; try rfl)
 refine tT 1 ?_ rfl ?_ ?_; rotate_left; (focus intros; go_simp; try rfl)
 refine tT 2 ?_ rfl ?_ ?_; rotate_left; (focus intros; go_simp; try rfl); (try simp only [ly])
 refine tT 3 ?_ rfl ?_ ?_; rotate_left; (focus intros; go_simp; try rfl)
 refine tT 4 ?_ rfl ?_ ?_; rotate_left; (focus intros; go_simp; try rfl)
 refine tT 5 ?_ rfl ?_ ?_; rotate_left; (focus intros; go_simp; try rfl); (try simp only [ly])
 refine tT 6 ?_ rfl ?_ ?_; rotate_left; (focus intros; go_simp; try rfl)
 (refine takeH (i := 7) (v := .agg L.toArray) rfl (by kernel_rfl) (by kernel_rfl) (by kernel_rfl) (fun _ _ _ h => h) (yieldsIf_load_mid (by kernel_rfl) 35 _ rfl K 0 rfl L _ (fun _ hb => HRG.out _ hb) Tryz.underlying35 rfl HAL.out.size) (by assumption) ?_; (try simp only [ly]))
 refine oneH (i := 8) (by kernel_rfl) rfl (fun Kc hK => ?_)
 go_simp
 go_at_call 60; refine (HST.out _ false hHeld HQ.out).mono ?_; rintro e w7 ⟨rfl, hb7⟩; (have HB7 := Lib.hid (hHeld.trans (hb7.mono hHeld.size))); clear hb7 hHeld
 go_wp2_with fail
 refine hK.out _ _ (HB7.out) (fun hHeld => ?_)
 clear hK Kc
 (try simp only [ly])
 refine tT 9 ?_ rfl ?_ ?_; rotate_left; (focus intros; go_simp; try rfl)
 (refine takeU (i := 10) rfl ?_)
 (refine takeU (i := 11) rfl ?_; (try simp only [ly]))
 (refine takeU (i := 12) rfl ?_)
 (refine takeU (i := 13) rfl ?_)
 (refine takeU (i := 14) rfl ?_; (try simp only [ly]))
 (refine takeU (i := 15) rfl ?_)
 (refine takeU (i := 16) rfl ?_)
 (refine takeU (i := 17) rfl ?_; (try simp only [ly]))
 (refine takeU (i := 18) rfl ?_)
 (refine takeU (i := 19) rfl ?_)
 (refine takeU (i := 20) rfl ?_; (try simp only [ly]))
 (refine takeU (i := 21) rfl ?_)
 (refine takeU (i := 22) rfl ?_)
 (refine takeU (i := 23) rfl ?_; (try simp only [ly]))
 refine tT 24 ?_ rfl ?_ ?_; rotate_left; (focus intros; go_simp; try rfl)
 refine tT 25 ?_ rfl ?_ ?_; rotate_left; (focus intros; go_simp; try rfl)
 refine tT 26 ?_ rfl ?_ ?_; rotate_left; (focus intros; go_simp; try rfl); (try simp only [ly])
 refine wpAnyH_done (by kernel_rfl) ?_ _
 (try simp only [ly])
 have HW7 := Lib.hid (HW6.out.below hHeld)
 have HT6 : Hid (Turn K rv rv W _) := Lib.hid (HT6.out.trans (Turn.of_below hHeld))
 clear hHeld HW6
 go_wp2
 first
  | exact bodyPost_ret (results_none rfl _ _ _) rfl ⟨rfl, rv, by rw [HEQ.out]; exact HW7.out, HT6.out⟩
  | exact bodyPost_end (results_none rfl _ _ _) rfl ⟨rfl, rv, by rw [HEQ.out]; exact HW7.out, HT6.out⟩

end Go.Proofs.YthhfnageadckkaaGreat
