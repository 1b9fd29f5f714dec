/- Merged: Layer 15: what has come to its end: a move. PRINTED by wip/tool/mkends.py Layer 15: what has come to its end: a search; the whole. PRINTED by wip/tool/mkends.py -/
import Derived.Test.YthhfnageadckkaaGreatM21
import Derived.Test.YthhfnageadckkaaGreatM39
set_option linter.unusedVariables false
set_option linter.unusedSimpArgs false
set_option maxHeartbeats 8000000
namespace Go.Proofs.YthhfnageadckkaaGreat
open Go.RowKit
attribute [local go_sem] ite_max ite_min vite_max vite_min ext_cell ext_frozen

set_option maxRecDepth 100000 in
theorem aends4d (s : WS) (p : Bool) (K : Nat) (rv : Value) (W : World) (h : WK W K s rv) (hl : s.rs.length + 5 ≤ 2000) (hst : s.a.st = 4) (ho : (underX s.a).ok = true) (hpp : p = false) (hq : stillX s.a = true) (hk : ¬ (underX s.a).x.kind = 1) :
  Calls Tryz.prog 33 #[.pointer (some ⟨K, 0, none⟩), .bool p] W fun x w' => x = .returned (.tuple #[]) ∧ ∃ rv', WK w' K (endsX s p) rv' ∧ Turn K rv rv' W w' := by
 have HW := Lib.hid h
 have HL := Lib.hid hl
 obtain ⟨x, o, hu⟩ : ∃ x o, underX s.a = ⟨x, o⟩ := ⟨_, _, rfl⟩
 have HU := Lib.hid hu
 clear h hl hu
 have HE : Hid (endsX s p = if (o && (p || (stillX s.a && (decide (x.kind ≠ 1) || decide (x.target = s.a.g.p))))) = true then doneX s 10 else s) := Lib.hid (by
  unfold endsX
  rw [if_pos hst, HU.out])
 rw [HU.out] at ho
 dsimp only at ho
 rw [HU.out] at hk
 dsimp only at hk
 subst ho hpp
 have HEQ : Hid (endsX s false = doneX s 10) := Lib.hid (by
  rw [HE.out]
  rw [hq, decide_eq_true hk]
  rfl)
 have HQ := Lib.hid hq
 clear hq
 have hk2 : (x.kind != 1) = true := by simp [hk]
 clear hk
 have HSTT := Lib.hid hst
 clear hst
 go_enter Tryz.func33, Tryz.ntmps33
 go_wp2_with fail
 refine (aunder_at s ⟨x, true⟩ K rv _ HW.out HU.out).mono ?_
 simp only [CmdS.val]
 rintro e w5 ⟨rfl, hb5⟩
 have HW5 := Lib.hid (HW.out.below hb5)
 have HT5 : Hid (Turn K rv rv W w5) := Lib.hid (Turn.of_below hb5)
 clear hb5
 go_upto_region 1 with (fail)
 refine wp_name fun W6 hW6 => ?_
 obtain ⟨B6, hB6⟩ : ∃ B, B = w5.heap.size := ⟨_, rfl⟩
 have hbel6 : Below w5.heap.size w5 W6 := by rw [hW6.out]; exact belowBy
 have hl6 : B6 < W6.heap.size := by rw [hW6.out, hB6]; simp
 have x1 : W6.cell? ⟨B6, 1, none⟩ = some (.int .i64 x.kind) := by rw [hW6.out, hB6]; go_simp
 have x2 : W6.cell? ⟨B6, 2, none⟩ = some (.int .i64 x.target) := by rw [hW6.out, hB6]; go_simp
 have HW6 := Lib.hid (HW5.out.below hbel6)
 have HT6 := Lib.hid (HT5.out.trans (Turn.of_below hbel6))
 (try rw [← hB6])
 (try simp only [Act.put])
 clear hW6 hbel6 hB6 HW5 HT5
 obtain ⟨sv, nv, wv, cv, hp⟩ := HW6.out
 have HP := Lib.hid hp
 have HRT : Hid (rightW s.a.sm s.a.sm.length = true) := Lib.hid hp.inv.smr
 obtain ⟨L, hL⟩ := axL_some s.a sv nv wv
 have HAL := Lib.hid hL
 have HRG : Hid (∀ W', Below W6.heap.size W6 W' → W'.rangeAt K 0 L) := Lib.hid (fun W' hb => (hp.below hb).range hL)
 have HST : Hid (∀ W' r, Below W6.heap.size W6 W' → stillX s.a = r → Calls Tryz.prog 60 #[.agg L.toArray] W' fun e w' => e = .returned (.bool r) ∧ Below W'.heap.size W' w') := Lib.hid (fun W' r hb hr => astill_L s.a sv nv wv L r W' hL (hp.sm.below hb) (by have := rightW_yes hp.inv.smr; omega) hr)
 clear hL
 have c_st := hp.cell 0 _ rfl
 have lK := hp.lt
 have fK := hp.froz
 rw [HSTT.out] at c_st
 have HCL : Hid (∀ W', Below W6.heap.size W6 W' → W'.cell? ⟨B6, 1, none⟩ = some (.int .i64 x.kind) ∧ W'.cell? ⟨B6, 2, none⟩ = some (.int .i64 x.target) ∧ WKp W' K s rv sv nv wv cv) := Lib.hid (fun W' hb => ⟨(hb.cell (p := ⟨B6, 1, none⟩) hl6).trans x1, (hb.cell (p := ⟨B6, 2, none⟩) hl6).trans x2, HP.out.below hb⟩)
 clear hp
 go_wp2_with fail
 refine wp_region_held_drew (S := fun w' => Below W6.heap.size W6 w') (by kernel_rfl) ?_ (fun hHeld => ?_)
 ·exact (Below.refl _ _).drew
 refine tT 0 ?_ rfl ?_ ?_; rotate_left; (focus intros; go_simp; try rfl)
 refine tT 1 ?_ rfl ?_ ?_; rotate_left; (focus intros; go_simp; try rfl)
 refine tT 2 ?_ rfl ?_ ?_; rotate_left; (focus intros; go_simp; try rfl); (try simp only [ly])
 refine tT 3 ?_ rfl ?_ ?_; rotate_left; (focus intros; go_simp; try rfl)
 refine tT 4 ?_ rfl ?_ ?_; rotate_left; (focus intros; go_simp; try rfl)
 refine tT 5 ?_ rfl ?_ ?_; rotate_left; (focus intros; go_simp; try rfl); (try simp only [ly])
 refine tT 6 ?_ rfl ?_ ?_; rotate_left; (focus intros; go_simp; try rfl)
 (refine takeH (i := 7) (v := .agg L.toArray) rfl (by kernel_rfl) (by kernel_rfl) (by kernel_rfl) (fun _ _ _ h => h) (yieldsIf_load_mid (by kernel_rfl) 35 _ rfl K 0 rfl L _ (fun _ hb => HRG.out _ hb) Tryz.underlying35 rfl HAL.out.size) (by assumption) ?_; (try simp only [ly]))
 refine oneH (i := 8) (by kernel_rfl) rfl (fun Kc hK => ?_)
 go_simp
 go_at_call 60; refine (HST.out _ true hHeld HQ.out).mono ?_; rintro e w7 ⟨rfl, hb7⟩; (have HB7 := Lib.hid (hHeld.trans (hb7.mono hHeld.size))); clear hb7 hHeld
 go_wp2_with fail
 refine hK.out _ _ (HB7.out) (fun hHeld => ?_)
 clear hK Kc
 (try simp only [ly])
 refine tT 9 ?_ rfl ?_ ?_; rotate_left; (focus intros; go_simp; try rfl)
 refine tT 10 ?_ rfl ?_ ?_; rotate_left; (focus intros; go_simp; try rfl)
 (refine tT 11 ?_ rfl ?_ ?_; rotate_left; (focus (intro w' hSw; (try dsimp only at hSw); have hh := (HCL.out _ hSw).1; go_simp; try (with_reducible rfl))); (try simp only [ly]))
 refine tT 12 ?_ rfl ?_ ?_; rotate_left; (focus intros; go_simp; try rfl)
 refine tT 13 ?_ rfl ?_ ?_; rotate_left; (focus intros; go_simp; try rfl)
 (refine takeU (i := 14) rfl ?_; (try simp only [ly]))
 (refine takeU (i := 15) rfl ?_)
 (refine takeU (i := 16) rfl ?_)
 (refine takeU (i := 17) rfl ?_; (try simp only [ly]))
 (refine takeU (i := 18) rfl ?_)
 (refine takeU (i := 19) rfl ?_)
 (refine takeU (i := 20) rfl ?_; (try simp only [ly]))
 (refine takeU (i := 21) rfl ?_)
 (refine takeU (i := 22) rfl ?_)
 refine tT 23 ?_ rfl ?_ ?_; rotate_left; (focus intros; go_simp; try rfl); (try simp only [ly])
 refine tT 24 ?_ rfl ?_ ?_; rotate_left; (focus intros; go_simp; try rfl)
 refine tT 25 ?_ rfl ?_ ?_; rotate_left; (focus intros; go_simp; try rfl)
 refine tT 26 ?_ rfl ?_ ?_; rotate_left; (focus intros; go_simp; try rfl); (try simp only [ly])
 refine wpAnyH_done (by kernel_rfl) ?_ _
 (try simp only [ly])
 have HW7 := Lib.hid (HW6.out.below hHeld)
 have HT6 : Hid (Turn K rv rv W _) := Lib.hid (HT6.out.trans (Turn.of_below hHeld))
 clear hHeld HW6
 go_wp2_with fail
 refine (adone_at s 10 K rv _ HW7.out (by have := HL.out; omega)).mono ?_
 rintro e w8 ⟨rfl, rv8, hw8, ht8⟩
 have HW8 := Lib.hid hw8
 have HT8 := Lib.hid (HT6.out.trans ht8)
 clear hw8 ht8
 go_wp2
 first
  | exact bodyPost_ret (results_none rfl _ _ _) rfl ⟨rfl, rv8, by rw [HEQ.out]; exact HW8.out, HT8.out⟩
  | exact bodyPost_end (results_none rfl _ _ _) rfl ⟨rfl, rv8, by rw [HEQ.out]; exact HW8.out, HT8.out⟩

set_option maxRecDepth 100000 in
theorem aends4e (s : WS) (p : Bool) (K : Nat) (rv : Value) (W : World) (h : WK W K s rv) (hl : s.rs.length + 5 ≤ 2000) (hst : s.a.st = 4) (ho : (underX s.a).ok = true) (hpp : p = false) (hq : stillX s.a = true) (hk : (underX s.a).x.kind = 1) (ht : (underX s.a).x.target = s.a.g.p) :
  Calls Tryz.prog 33 #[.pointer (some ⟨K, 0, none⟩), .bool p] W fun x w' => x = .returned (.tuple #[]) ∧ ∃ rv', WK w' K (endsX s p) rv' ∧ Turn K rv rv' W w' := by
 have HW := Lib.hid h
 have HL := Lib.hid hl
 obtain ⟨x, o, hu⟩ : ∃ x o, underX s.a = ⟨x, o⟩ := ⟨_, _, rfl⟩
 have HU := Lib.hid hu
 clear h hl hu
 have HE : Hid (endsX s p = if (o && (p || (stillX s.a && (decide (x.kind ≠ 1) || decide (x.target = s.a.g.p))))) = true then doneX s 10 else s) := Lib.hid (by
  unfold endsX
  rw [if_pos hst, HU.out])
 rw [HU.out] at ho
 dsimp only at ho
 rw [HU.out] at hk
 dsimp only at hk
 rw [HU.out] at ht
 dsimp only at ht
 subst ho hpp
 have HEQ : Hid (endsX s false = doneX s 10) := Lib.hid (by
  rw [HE.out]
  rw [hq, decide_eq_true ht, Bool.or_true]
  rfl)
 have HQ := Lib.hid hq
 clear hq
 have hk2 : (x.kind != 1) = false := by simp [hk]
 clear hk
 have ht2 : (x.target == s.a.g.p) = true := by simp [ht]
 clear ht
 have HSTT := Lib.hid hst
 clear hst
 go_enter Tryz.func33, Tryz.ntmps33
 go_wp2_with fail
 refine (aunder_at s ⟨x, true⟩ K rv _ HW.out HU.out).mono ?_
 simp only [CmdS.val]
 rintro e w5 ⟨rfl, hb5⟩
 have HW5 := Lib.hid (HW.out.below hb5)
 have HT5 : Hid (Turn K rv rv W w5) := Lib.hid (Turn.of_below hb5)
 clear hb5
 go_upto_region 1 with (fail)
 refine wp_name fun W6 hW6 => ?_
 obtain ⟨B6, hB6⟩ : ∃ B, B = w5.heap.size := ⟨_, rfl⟩
 have hbel6 : Below w5.heap.size w5 W6 := by rw [hW6.out]; exact belowBy
 have hl6 : B6 < W6.heap.size := by rw [hW6.out, hB6]; simp
 have x1 : W6.cell? ⟨B6, 1, none⟩ = some (.int .i64 x.kind) := by rw [hW6.out, hB6]; go_simp
 have x2 : W6.cell? ⟨B6, 2, none⟩ = some (.int .i64 x.target) := by rw [hW6.out, hB6]; go_simp
 have HW6 := Lib.hid (HW5.out.below hbel6)
 have HT6 := Lib.hid (HT5.out.trans (Turn.of_below hbel6))
 (try rw [← hB6])
 (try simp only [Act.put])
 clear hW6 hbel6 hB6 HW5 HT5
 obtain ⟨sv, nv, wv, cv, hp⟩ := HW6.out
 have HP := Lib.hid hp
 have HRT : Hid (rightW s.a.sm s.a.sm.length = true) := Lib.hid hp.inv.smr
 obtain ⟨L, hL⟩ := axL_some s.a sv nv wv
 have HAL := Lib.hid hL
 have HRG : Hid (∀ W', Below W6.heap.size W6 W' → W'.rangeAt K 0 L) := Lib.hid (fun W' hb => (hp.below hb).range hL)
 have HST : Hid (∀ W' r, Below W6.heap.size W6 W' → stillX s.a = r → Calls Tryz.prog 60 #[.agg L.toArray] W' fun e w' => e = .returned (.bool r) ∧ Below W'.heap.size W' w') := Lib.hid (fun W' r hb hr => astill_L s.a sv nv wv L r W' hL (hp.sm.below hb) (by have := rightW_yes hp.inv.smr; omega) hr)
 clear hL
 have c_st := hp.cell 0 _ rfl
 have lK := hp.lt
 have fK := hp.froz
 rw [HSTT.out] at c_st
 have HCL : Hid (∀ W', Below W6.heap.size W6 W' → W'.cell? ⟨B6, 1, none⟩ = some (.int .i64 x.kind) ∧ W'.cell? ⟨B6, 2, none⟩ = some (.int .i64 x.target) ∧ WKp W' K s rv sv nv wv cv) := Lib.hid (fun W' hb => ⟨(hb.cell (p := ⟨B6, 1, none⟩) hl6).trans x1, (hb.cell (p := ⟨B6, 2, none⟩) hl6).trans x2, HP.out.below hb⟩)
 clear hp
 go_wp2_with fail
 refine wp_region_held_drew (S := fun w' => Below W6.heap.size W6 w') (by kernel_rfl) ?_ (fun hHeld => ?_)
 ·exact (Below.refl _ _).drew
 refine tT 0 ?_ rfl ?_ ?_; rotate_left; (focus intros; go_simp; try rfl)
 refine tT 1 ?_ rfl ?_ ?_; rotate_left; (focus intros; go_simp; try rfl)
 refine tT 2 ?_ rfl ?_ ?_; rotate_left; (focus intros; go_simp; try rfl); (try simp only [ly])
 refine tT 3 ?_ rfl ?_ ?_; rotate_left; (focus intros; go_simp; try rfl)
 refine tT 4 ?_ rfl ?_ ?_; rotate_left; (focus intros; go_simp; try rfl)
 refine tT 5 ?_ rfl ?_ ?_; rotate_left; (focus intros; go_simp; try rfl); (try simp only [ly])
 refine tT 6 ?_ rfl ?_ ?_; rotate_left; (focus intros; go_simp; try rfl)
 (refine takeH (i := 7) (v := .agg L.toArray) rfl (by kernel_rfl) (by kernel_rfl) (by kernel_rfl) (fun _ _ _ h => h) (yieldsIf_load_mid (by kernel_rfl) 35 _ rfl K 0 rfl L _ (fun _ hb => HRG.out _ hb) Tryz.underlying35 rfl HAL.out.size) (by assumption) ?_; (try simp only [ly]))
 refine oneH (i := 8) (by kernel_rfl) rfl (fun Kc hK => ?_)
 go_simp
 go_at_call 60; refine (HST.out _ true hHeld HQ.out).mono ?_; rintro e w7 ⟨rfl, hb7⟩; (have HB7 := Lib.hid (hHeld.trans (hb7.mono hHeld.size))); clear hb7 hHeld
 go_wp2_with fail
 refine hK.out _ _ (HB7.out) (fun hHeld => ?_)
 clear hK Kc
 (try simp only [ly])
 refine tT 9 ?_ rfl ?_ ?_; rotate_left; (focus intros; go_simp; try rfl)
 refine tT 10 ?_ rfl ?_ ?_; rotate_left; (focus intros; go_simp; try rfl)
 (refine tT 11 ?_ rfl ?_ ?_; rotate_left; (focus (intro w' hSw; (try dsimp only at hSw); have hh := (HCL.out _ hSw).1; go_simp; try (with_reducible rfl))); (try simp only [ly]))
 refine tT 12 ?_ rfl ?_ ?_; rotate_left; (focus intros; go_simp; try rfl)
 refine tT 13 ?_ rfl ?_ ?_; rotate_left; (focus intros; go_simp; try rfl)
 refine tT 14 ?_ rfl ?_ ?_; rotate_left; (focus intros; go_simp; try rfl); (try simp only [ly])
 (refine tT 15 ?_ rfl ?_ ?_; rotate_left; (focus (intro w' hSw; (try dsimp only at hSw); have hh := (HCL.out _ hSw).2.1; go_simp; try (with_reducible rfl))))
 refine tT 16 ?_ rfl ?_ ?_; rotate_left; (focus intros; go_simp; try rfl)
 refine tT 17 ?_ rfl ?_ ?_; rotate_left; (focus intros; go_simp; try rfl); (try simp only [ly])
 refine tT 18 ?_ rfl ?_ ?_; rotate_left; (focus intros; go_simp; try rfl)
 refine tT 19 ?_ rfl ?_ ?_; rotate_left; (focus intros; go_simp; try rfl)
 refine tT 20 ?_ rfl ?_ ?_; rotate_left; (focus intros; go_simp; try rfl); (try simp only [ly])
 (refine tT 21 ?_ rfl ?_ ?_; rotate_left; (focus (intro w' hSw; (try dsimp only at hSw); have hk := (HCL.out _ hSw).2.2; have hh := hk.cell 10 _ rfl; have hlK := hk.lt; go_simp; try (with_reducible rfl))))
 refine tT 22 ?_ rfl ?_ ?_; rotate_left; (focus intros; go_simp; try rfl)
 refine tT 23 ?_ rfl ?_ ?_; rotate_left; (focus intros; go_simp; try rfl); (try simp only [ly])
 refine tT 24 ?_ rfl ?_ ?_; rotate_left; (focus intros; go_simp; try rfl)
 refine tT 25 ?_ rfl ?_ ?_; rotate_left; (focus intros; go_simp; try rfl)
 refine tT 26 ?_ rfl ?_ ?_; rotate_left; (focus intros; go_simp; try rfl); (try simp only [ly])
 refine wpAnyH_done (by kernel_rfl) ?_ _
 (try simp only [ly])
 have HW7 := Lib.hid (HW6.out.below hHeld)
 have HT6 : Hid (Turn K rv rv W _) := Lib.hid (HT6.out.trans (Turn.of_below hHeld))
 clear hHeld HW6
 go_wp2_with fail
 refine (adone_at s 10 K rv _ HW7.out (by have := HL.out; omega)).mono ?_
 rintro e w8 ⟨rfl, rv8, hw8, ht8⟩
 have HW8 := Lib.hid hw8
 have HT8 := Lib.hid (HT6.out.trans ht8)
 clear hw8 ht8
 go_wp2
 first
  | exact bodyPost_ret (results_none rfl _ _ _) rfl ⟨rfl, rv8, by rw [HEQ.out]; exact HW8.out, HT8.out⟩
  | exact bodyPost_end (results_none rfl _ _ _) rfl ⟨rfl, rv8, by rw [HEQ.out]; exact HW8.out, HT8.out⟩

set_option maxRecDepth 100000 in
theorem aends4f (s : WS) (p : Bool) (K : Nat) (rv : Value) (W : World) (h : WK W K s rv) (hl : s.rs.length + 5 ≤ 2000) (hst : s.a.st = 4) (ho : (underX s.a).ok = true) (hpp : p = false) (hq : stillX s.a = true) (hk : (underX s.a).x.kind = 1) (ht : ¬ (underX s.a).x.target = s.a.g.p) :
  Calls Tryz.prog 33 #[.pointer (some ⟨K, 0, none⟩), .bool p] W fun x w' => x = .returned (.tuple #[]) ∧ ∃ rv', WK w' K (endsX s p) rv' ∧ Turn K rv rv' W w' := by
 have HW := Lib.hid h
 have HL := Lib.hid hl
 obtain ⟨x, o, hu⟩ : ∃ x o, underX s.a = ⟨x, o⟩ := ⟨_, _, rfl⟩
 have HU := Lib.hid hu
 clear h hl hu
 have HE : Hid (endsX s p = if (o && (p || (stillX s.a && (decide (x.kind ≠ 1) || decide (x.target = s.a.g.p))))) = true then doneX s 10 else s) := Lib.hid (by
  unfold endsX
  rw [if_pos hst, HU.out])
 rw [HU.out] at ho
 dsimp only at ho
 rw [HU.out] at hk
 dsimp only at hk
 rw [HU.out] at ht
 dsimp only at ht
 subst ho hpp
 have HEQ : Hid (endsX s false = s) := Lib.hid (by
  rw [HE.out]
  rw [hq, decide_eq_false ht, decide_eq_false (fun hh : x.kind ≠ 1 => hh hk)]
  rfl)
 have HQ := Lib.hid hq
 clear hq
 have hk2 : (x.kind != 1) = false := by simp [hk]
 clear hk
 have ht2 : (x.target == s.a.g.p) = false := by simp [ht]
 clear ht
 have HSTT := Lib.hid hst
 clear hst
 go_enter Tryz.func33, Tryz.ntmps33
 go_wp2_with fail
 refine (aunder_at s ⟨x, true⟩ K rv _ HW.out HU.out).mono ?_
 simp only [CmdS.val]
 rintro e w5 ⟨rfl, hb5⟩
 have HW5 := Lib.hid (HW.out.below hb5)
 have HT5 : Hid (Turn K rv rv W w5) := Lib.hid (Turn.of_below hb5)
 clear hb5
 go_upto_region 1 with (fail)
 refine wp_name fun W6 hW6 => ?_
 obtain ⟨B6, hB6⟩ : ∃ B, B = w5.heap.size := ⟨_, rfl⟩
 have hbel6 : Below w5.heap.size w5 W6 := by rw [hW6.out]; exact belowBy
 have hl6 : B6 < W6.heap.size := by rw [hW6.out, hB6]; simp
 have x1 : W6.cell? ⟨B6, 1, none⟩ = some (.int .i64 x.kind) := by rw [hW6.out, hB6]; go_simp
 have x2 : W6.cell? ⟨B6, 2, none⟩ = some (.int .i64 x.target) := by rw [hW6.out, hB6]; go_simp
 have HW6 := Lib.hid (HW5.out.below hbel6)
 have HT6 := Lib.hid (HT5.out.trans (Turn.of_below hbel6))
 (try rw [← hB6])
 (try simp only [Act.put])
 clear hW6 hbel6 hB6 HW5 HT5
 obtain ⟨sv, nv, wv, cv, hp⟩ := HW6.out
 have HP := Lib.hid hp
 have HRT : Hid (rightW s.a.sm s.a.sm.length = true) := Lib.hid hp.inv.smr
 obtain ⟨L, hL⟩ := axL_some s.a sv nv wv
 have HAL := Lib.hid hL
 have HRG : Hid (∀ W', Below W6.heap.size W6 W' → W'.rangeAt K 0 L) := Lib.hid (fun W' hb => (hp.below hb).range hL)
 have HST : Hid (∀ W' r, Below W6.heap.size W6 W' → stillX s.a = r → Calls Tryz.prog 60 #[.agg L.toArray] W' fun e w' => e = .returned (.bool r) ∧ Below W'.heap.size W' w') := Lib.hid (fun W' r hb hr => astill_L s.a sv nv wv L r W' hL (hp.sm.below hb) (by have := rightW_yes hp.inv.smr; omega) hr)
 clear hL
 have c_st := hp.cell 0 _ rfl
 have lK := hp.lt
 have fK := hp.froz
 rw [HSTT.out] at c_st
 have HCL : Hid (∀ W', Below W6.heap.size W6 W' → W'.cell? ⟨B6, 1, none⟩ = some (.int .i64 x.kind) ∧ W'.cell? ⟨B6, 2, none⟩ = some (.int .i64 x.target) ∧ WKp W' K s rv sv nv wv cv) := Lib.hid (fun W' hb => ⟨(hb.cell (p := ⟨B6, 1, none⟩) hl6).trans x1, (hb.cell (p := ⟨B6, 2, none⟩) hl6).trans x2, HP.out.below hb⟩)
 clear hp
 go_wp2_with fail
 refine wp_region_held_drew (S := fun w' => Below W6.heap.size W6 w') (by kernel_rfl) ?_ (fun hHeld => ?_)
 ·exact (Below.refl _ _).drew
 refine tT 0 ?_ rfl ?_ ?_; rotate_left; (focus intros; go_simp; try rfl)
 refine tT 1 ?_ rfl ?_ ?_; rotate_left; (focus intros; go_simp; try rfl)
 refine tT 2 ?_ rfl ?_ ?_; rotate_left; (focus intros; go_simp; try rfl); (try simp only [ly])
 refine tT 3 ?_ rfl ?_ ?_; rotate_left; (focus intros; go_simp; try rfl)
 refine tT 4 ?_ rfl ?_ ?_; rotate_left; (focus intros; go_simp; try rfl)
 refine tT 5 ?_ rfl ?_ ?_; rotate_left; (focus intros; go_simp; try rfl); (try simp only [ly])
 refine tT 6 ?_ rfl ?_ ?_; rotate_left; (focus intros; go_simp; try rfl)
 (refine takeH (i := 7) (v := .agg L.toArray) rfl (by kernel_rfl) (by kernel_rfl) (by kernel_rfl) (fun _ _ _ h => h) (yieldsIf_load_mid (by kernel_rfl) 35 _ rfl K 0 rfl L _ (fun _ hb => HRG.out _ hb) Tryz.underlying35 rfl HAL.out.size) (by assumption) ?_; (try simp only [ly]))
 refine oneH (i := 8) (by kernel_rfl) rfl (fun Kc hK => ?_)
 go_simp
 go_at_call 60; refine (HST.out _ true hHeld HQ.out).mono ?_; rintro e w7 ⟨rfl, hb7⟩; (have HB7 := Lib.hid (hHeld.trans (hb7.mono hHeld.size))); clear hb7 hHeld
 go_wp2_with fail
 refine hK.out _ _ (HB7.out) (fun hHeld => ?_)
 clear hK Kc
 (try simp only [ly])
 refine tT 9 ?_ rfl ?_ ?_; rotate_left; (focus intros; go_simp; try rfl)
 refine tT 10 ?_ rfl ?_ ?_; rotate_left; (focus intros; go_simp; try rfl)
 (refine tT 11 ?_ rfl ?_ ?_; rotate_left; (focus (intro w' hSw; (try dsimp only at hSw); have hh := (HCL.out _ hSw).1; go_simp; try (with_reducible rfl))); (try simp only [ly]))
 refine tT 12 ?_ rfl ?_ ?_; rotate_left; (focus intros; go_simp; try rfl)
 refine tT 13 ?_ rfl ?_ ?_; rotate_left; (focus intros; go_simp; try rfl)
 refine tT 14 ?_ rfl ?_ ?_; rotate_left; (focus intros; go_simp; try rfl); (try simp only [ly])
 (refine tT 15 ?_ rfl ?_ ?_; rotate_left; (focus (intro w' hSw; (try dsimp only at hSw); have hh := (HCL.out _ hSw).2.1; go_simp; try (with_reducible rfl))))
 refine tT 16 ?_ rfl ?_ ?_; rotate_left; (focus intros; go_simp; try rfl)
 refine tT 17 ?_ rfl ?_ ?_; rotate_left; (focus intros; go_simp; try rfl); (try simp only [ly])
 refine tT 18 ?_ rfl ?_ ?_; rotate_left; (focus intros; go_simp; try rfl)
 refine tT 19 ?_ rfl ?_ ?_; rotate_left; (focus intros; go_simp; try rfl)
 refine tT 20 ?_ rfl ?_ ?_; rotate_left; (focus intros; go_simp; try rfl); (try simp only [ly])
 (refine tT 21 ?_ rfl ?_ ?_; rotate_left; (focus (intro w' hSw; (try dsimp only at hSw); have hk := (HCL.out _ hSw).2.2; have hh := hk.cell 10 _ rfl; have hlK := hk.lt; go_simp; try (with_reducible rfl))))
 refine tT 22 ?_ rfl ?_ ?_; rotate_left; (focus intros; go_simp; try rfl)
 refine tT 23 ?_ rfl ?_ ?_; rotate_left; (focus intros; go_simp; try rfl); (try simp only [ly])
 refine tT 24 ?_ rfl ?_ ?_; rotate_left; (focus intros; go_simp; try rfl)
 refine tT 25 ?_ rfl ?_ ?_; rotate_left; (focus intros; go_simp; try rfl)
 refine tT 26 ?_ rfl ?_ ?_; rotate_left; (focus intros; go_simp; try rfl); (try simp only [ly])
 refine wpAnyH_done (by kernel_rfl) ?_ _
 (try simp only [ly])
 have HW7 := Lib.hid (HW6.out.below hHeld)
 have HT6 : Hid (Turn K rv rv W _) := Lib.hid (HT6.out.trans (Turn.of_below hHeld))
 clear hHeld HW6
 go_wp2
 first
  | exact bodyPost_ret (results_none rfl _ _ _) rfl ⟨rfl, rv, by rw [HEQ.out]; exact HW7.out, HT6.out⟩
  | exact bodyPost_end (results_none rfl _ _ _) rfl ⟨rfl, rv, by rw [HEQ.out]; exact HW7.out, HT6.out⟩


set_option maxRecDepth 100000 in
theorem aends2 (s : WS) (p : Bool) (K : Nat) (rv : Value) (W : World) (h : WK W K s rv) (hl : s.rs.length + 5 ≤ 2000) (hst : s.a.st = 2) :
  Calls Tryz.prog 33 #[.pointer (some ⟨K, 0, none⟩), .bool p] W fun x w' => x = .returned (.tuple #[]) ∧ ∃ rv', WK w' K (endsX s p) rv' ∧ Turn K rv rv' W w' := by
 have HW := Lib.hid h
 have HL := Lib.hid hl
 obtain ⟨x, o, hu⟩ : ∃ x o, underX s.a = ⟨x, o⟩ := ⟨_, _, rfl⟩
 have HU := Lib.hid hu
 clear h hl hu
 have HE : Hid (endsX s p = if (decide (s.a.h.p = 4) && stillX s.a) = true then homedX s else if s.a.h.p = 5 then failsX s 5 else s) := Lib.hid (by
  unfold endsX
  rw [if_neg (by omega), if_neg (by omega), if_pos hst])
 have HSTT := Lib.hid hst
 clear hst
 go_enter Tryz.func33, Tryz.ntmps33
 go_wp2_with fail
 refine (aunder_at s ⟨x, o⟩ K rv _ HW.out HU.out).mono ?_
 simp only [CmdS.val]
 rintro e w5 ⟨rfl, hb5⟩
 have HW5 := Lib.hid (HW.out.below hb5)
 have HT5 : Hid (Turn K rv rv W w5) := Lib.hid (Turn.of_below hb5)
 clear hb5
 go_upto_region 1 with (fail)
 refine wp_name fun W6 hW6 => ?_
 obtain ⟨B6, hB6⟩ : ∃ B, B = w5.heap.size := ⟨_, rfl⟩
 have hbel6 : Below w5.heap.size w5 W6 := by rw [hW6.out]; exact belowBy
 have hl6 : B6 < W6.heap.size := by rw [hW6.out, hB6]; simp
 have x1 : W6.cell? ⟨B6, 1, none⟩ = some (.int .i64 x.kind) := by rw [hW6.out, hB6]; go_simp
 have x2 : W6.cell? ⟨B6, 2, none⟩ = some (.int .i64 x.target) := by rw [hW6.out, hB6]; go_simp
 have HW6 := Lib.hid (HW5.out.below hbel6)
 have HT6 := Lib.hid (HT5.out.trans (Turn.of_below hbel6))
 (try rw [← hB6])
 (try simp only [Act.put])
 clear hW6 hbel6 hB6 HW5 HT5
 obtain ⟨sv, nv, wv, cv, hp⟩ := HW6.out
 have HP := Lib.hid hp
 have HRT : Hid (rightW s.a.sm s.a.sm.length = true) := Lib.hid hp.inv.smr
 obtain ⟨L, hL⟩ := axL_some s.a sv nv wv
 have HAL := Lib.hid hL
 have HRG : Hid (∀ W', Below W6.heap.size W6 W' → W'.rangeAt K 0 L) := Lib.hid (fun W' hb => (hp.below hb).range hL)
 have HST : Hid (∀ W' r, Below W6.heap.size W6 W' → stillX s.a = r → Calls Tryz.prog 60 #[.agg L.toArray] W' fun e w' => e = .returned (.bool r) ∧ Below W'.heap.size W' w') := Lib.hid (fun W' r hb hr => astill_L s.a sv nv wv L r W' hL (hp.sm.below hb) (by have := rightW_yes hp.inv.smr; omega) hr)
 clear hL
 have c_st := hp.cell 0 _ rfl
 have c_hp := hp.cell 17 _ rfl
 have lK := hp.lt
 have fK := hp.froz
 clear hp
 rw [HSTT.out] at c_st
 by_cases h4 : s.a.h.p = 4
 ·have HE : Hid (endsX s p = if stillX s.a = true then homedX s else s) := Lib.hid (by rw [HE.out, h4]; cases stillX s.a <;> rfl)
  rw [h4] at c_hp
  cases hq : stillX s.a
  ·have HEQ : Hid (endsX s p = s) := Lib.hid (by rw [HE.out, hq, if_neg (by decide)])
   have HQ := Lib.hid hq
   have H4 := Lib.hid h4
   clear hq h4
   go_wp2_with (first | refine wpList_load_mid rfl 35 _ rfl K 0 rfl L _ (HRG.out _ (Below.refl _ _)) Tryz.underlying35 rfl HAL.out.size ?_ | refine wpList_load_midG 35 _ rfl K 0 rfl L _ (HRG.out _ (Below.refl _ _)) Tryz.underlying35 rfl HAL.out.size (by kernel_rfl) ?_)
   refine (HST.out _ false (Below.refl _ W6) HQ.out).mono ?_
   rintro e w7 ⟨rfl, hb7⟩
   have HW7 := Lib.hid (HW6.out.below hb7)
   have HT7 : Hid (Turn K rv rv W w7) := Lib.hid (HT6.out.trans (Turn.of_below hb7))
   have chp := (hb7.cell (p := ⟨K, 17, none⟩) lK).trans c_hp
   have lK7 : K < w7.heap.size := Nat.lt_of_lt_of_le lK hb7.size
   clear hb7
   go_wp2
   first
    | exact bodyPost_ret (results_none rfl _ _ _) rfl ⟨rfl, rv, by rw [HEQ.out]; exact HW7.out, HT7.out⟩
    | exact bodyPost_end (results_none rfl _ _ _) rfl ⟨rfl, rv, by rw [HEQ.out]; exact HW7.out, HT7.out⟩
  ·have HEQ : Hid (endsX s p = homedX s) := Lib.hid (by rw [HE.out, hq, if_pos rfl])
   have HQ := Lib.hid hq
   have H4 := Lib.hid h4
   clear hq h4
   go_wp2_with (first | refine wpList_load_mid rfl 35 _ rfl K 0 rfl L _ (HRG.out _ (Below.refl _ _)) Tryz.underlying35 rfl HAL.out.size ?_ | refine wpList_load_midG 35 _ rfl K 0 rfl L _ (HRG.out _ (Below.refl _ _)) Tryz.underlying35 rfl HAL.out.size (by kernel_rfl) ?_)
   refine (HST.out _ true (Below.refl _ W6) HQ.out).mono ?_
   rintro e w7 ⟨rfl, hb7⟩
   have HW7 := Lib.hid (HW6.out.below hb7)
   have HT6 : Hid (Turn K rv rv W w7) := Lib.hid (HT6.out.trans (Turn.of_below hb7))
   clear hb7
   go_wp2_with fail
   refine (ahomed_at s K rv _ HW7.out (still_v HQ.out) HL.out).mono ?_
   rintro e w8 ⟨rfl, rv8, hw8, ht8⟩
   have HW8 := Lib.hid hw8
   have HT8 := Lib.hid (HT6.out.trans ht8)
   clear hw8 ht8
   go_wp2
   first
    | exact bodyPost_ret (results_none rfl _ _ _) rfl ⟨rfl, rv8, by rw [HEQ.out]; exact HW8.out, HT8.out⟩
    | exact bodyPost_end (results_none rfl _ _ _) rfl ⟨rfl, rv8, by rw [HEQ.out]; exact HW8.out, HT8.out⟩
 ·by_cases h5 : s.a.h.p = 5
  ·have HEQ : Hid (endsX s p = failsX s 5) := Lib.hid (by rw [HE.out, decide_eq_false h4, Bool.false_and, if_neg (by decide), if_pos h5])
   rw [h5] at c_hp
   have H5 := Lib.hid h5
   clear h5 h4
   go_wp2_with fail
   refine (afails_at s 5 K rv _ HW6.out HL.out).mono ?_
   rintro e w8 ⟨rfl, rv8, hw8, ht8⟩
   have HW8 := Lib.hid hw8
   have HT8 := Lib.hid (HT6.out.trans ht8)
   clear hw8 ht8
   go_wp2
   first
    | exact bodyPost_ret (results_none rfl _ _ _) rfl ⟨rfl, rv8, by rw [HEQ.out]; exact HW8.out, HT8.out⟩
    | exact bodyPost_end (results_none rfl _ _ _) rfl ⟨rfl, rv8, by rw [HEQ.out]; exact HW8.out, HT8.out⟩
  ·have HEQ : Hid (endsX s p = s) := Lib.hid (by rw [HE.out, decide_eq_false h4, Bool.false_and, if_neg (by decide), if_neg h5])
   go_wp2
   first
    | exact bodyPost_ret (results_none rfl _ _ _) rfl ⟨rfl, rv, by rw [HEQ.out]; exact HW6.out, HT6.out⟩
    | exact bodyPost_end (results_none rfl _ _ _) rfl ⟨rfl, rv, by rw [HEQ.out]; exact HW6.out, HT6.out⟩

set_option maxRecDepth 100000 in
theorem aends0 (s : WS) (p : Bool) (K : Nat) (rv : Value) (W : World) (h : WK W K s rv) (hl : s.rs.length + 5 ≤ 2000) (h2 : s.a.st ≠ 2) (h3 : s.a.st ≠ 3) (h4 : s.a.st ≠ 4) :
  Calls Tryz.prog 33 #[.pointer (some ⟨K, 0, none⟩), .bool p] W fun x w' => x = .returned (.tuple #[]) ∧ ∃ rv', WK w' K (endsX s p) rv' ∧ Turn K rv rv' W w' := by
 have HW := Lib.hid h
 have HL := Lib.hid hl
 obtain ⟨x, o, hu⟩ : ∃ x o, underX s.a = ⟨x, o⟩ := ⟨_, _, rfl⟩
 have HU := Lib.hid hu
 clear h hl hu
 have HEQ : Hid (endsX s p = s) := Lib.hid (by
  unfold endsX
  rw [if_neg h4, if_neg h3, if_neg h2])
 go_enter Tryz.func33, Tryz.ntmps33
 go_wp2_with fail
 refine (aunder_at s ⟨x, o⟩ K rv _ HW.out HU.out).mono ?_
 simp only [CmdS.val]
 rintro e w5 ⟨rfl, hb5⟩
 have HW5 := Lib.hid (HW.out.below hb5)
 have HT5 : Hid (Turn K rv rv W w5) := Lib.hid (Turn.of_below hb5)
 clear hb5
 go_upto_region 1 with (fail)
 refine wp_name fun W6 hW6 => ?_
 obtain ⟨B6, hB6⟩ : ∃ B, B = w5.heap.size := ⟨_, rfl⟩
 have hbel6 : Below w5.heap.size w5 W6 := by rw [hW6.out]; exact belowBy
 have hl6 : B6 < W6.heap.size := by rw [hW6.out, hB6]; simp
 have x1 : W6.cell? ⟨B6, 1, none⟩ = some (.int .i64 x.kind) := by rw [hW6.out, hB6]; go_simp
 have x2 : W6.cell? ⟨B6, 2, none⟩ = some (.int .i64 x.target) := by rw [hW6.out, hB6]; go_simp
 have HW6 := Lib.hid (HW5.out.below hbel6)
 have HT6 := Lib.hid (HT5.out.trans (Turn.of_below hbel6))
 (try rw [← hB6])
 (try simp only [Act.put])
 clear hW6 hbel6 hB6 HW5 HT5
 obtain ⟨sv, nv, wv, cv, hp⟩ := HW6.out
 have HP := Lib.hid hp
 have HRT : Hid (rightW s.a.sm s.a.sm.length = true) := Lib.hid hp.inv.smr
 obtain ⟨L, hL⟩ := axL_some s.a sv nv wv
 have HAL := Lib.hid hL
 have HRG : Hid (∀ W', Below W6.heap.size W6 W' → W'.rangeAt K 0 L) := Lib.hid (fun W' hb => (hp.below hb).range hL)
 have HST : Hid (∀ W' r, Below W6.heap.size W6 W' → stillX s.a = r → Calls Tryz.prog 60 #[.agg L.toArray] W' fun e w' => e = .returned (.bool r) ∧ Below W'.heap.size W' w') := Lib.hid (fun W' r hb hr => astill_L s.a sv nv wv L r W' hL (hp.sm.below hb) (by have := rightW_yes hp.inv.smr; omega) hr)
 clear hL
 have c_st := hp.cell 0 _ rfl
 have lK := hp.lt
 have fK := hp.froz
 clear hp
 go_wp2
 first
  | exact bodyPost_ret (results_none rfl _ _ _) rfl ⟨rfl, rv, by rw [HEQ.out]; exact HW6.out, HT6.out⟩
  | exact bodyPost_end (results_none rfl _ _ _) rfl ⟨rfl, rv, by rw [HEQ.out]; exact HW6.out, HT6.out⟩

theorem aends_at (s : WS) (p : Bool) (K : Nat) (rv : Value) (W : World) (h : WK W K s rv) (hl : s.rs.length + 5 ≤ 2000) :
  Calls Tryz.prog 33 #[.pointer (some ⟨K, 0, none⟩), .bool p] W fun x w' => x = .returned (.tuple #[]) ∧ ∃ rv', WK w' K (endsX s p) rv' ∧ Turn K rv rv' W w' := by
 by_cases h4 : s.a.st = 4
 ·cases ho : (underX s.a).ok
  ·exact aends4a s p K rv W h hl h4 ho
  ·cases hp : p
   ·cases hq : stillX s.a
    ·exact aends4c s false K rv W h hl h4 ho rfl hq
    ·by_cases hk : (underX s.a).x.kind = 1
     ·by_cases ht : (underX s.a).x.target = s.a.g.p
      ·exact aends4e s false K rv W h hl h4 ho rfl hq hk ht
      ·exact aends4f s false K rv W h hl h4 ho rfl hq hk ht
     ·exact aends4d s false K rv W h hl h4 ho rfl hq hk
   ·exact aends4b s true K rv W h hl h4 ho rfl
 ·by_cases h3 : s.a.st = 3
  ·exact aends3 s p K rv W h hl h3
  ·by_cases h2 : s.a.st = 2
   ·exact aends2 s p K rv W h hl h2
   ·exact aends0 s p K rv W h hl h2 h3 h4

end Go.Proofs.YthhfnageadckkaaGreat
