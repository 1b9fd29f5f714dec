/- Layer 15: the speed that is wanted: a search. PRINTED by wip/tool/mkwanted.py -/
import Derived.Test.YthhfnageadckkaaGreatM27
import Derived.Test.YthhfnageadckkaaGreatAxQ1
import Derived.Test.YthhfnageadckkaaGreatM07
import Derived.Test.YthhfnageadckkaaGreatM35
import Derived.Test.YthhfnageadckkaaGreatM17
namespace Go.Proofs.YthhfnageadckkaaGreat
open Go.RowKit
set_option linter.unusedVariables false
set_option linter.unusedSimpArgs false
attribute [local go_sem] ite_max ite_min vite_max vite_min ext_cell ext_frozen

set_option maxRecDepth 100000 in
set_option maxHeartbeats 4000000 in
theorem awant_2 (s : WS) (K : Nat) (rv : Value) (W : World) (h : WK W K s rv) (hst : s.a.st = 2) (h1 : HomeS) (v : Int) (hr : stepH s.a.h s.i.hm s.i.plus s.i.minus (decide (s.a.g.v = 0)) = (h1, v)) :
  Calls Tryz.prog 73 #[.pointer (some ⟨K, 0, none⟩)] W fun z w' => z = .returned (.tuple #[.int .i64 (wantX s.a s.i).v, .bool (wantX s.a s.i).by_]) ∧ WK w' K { s with a := (wantX s.a s.i).a } rv ∧ Turn K rv rv W w' := by
 obtain ⟨x, o, hu⟩ : ∃ x o, underX s.a = ⟨x, o⟩ := ⟨_, _, rfl⟩
 obtain ⟨b, hbn⟩ : ∃ b, bndX s.a = b := ⟨_, rfl⟩
 have HU := Lib.hid hu
 have HBN := Lib.hid hbn
 have HEQ : Hid (wantX s.a s.i = ⟨{ s.a with h := h1 }, v, false⟩) := Lib.hid (by unfold wantX; rw [if_pos hst, hr])
 obtain ⟨p1, f1, q1, t1⟩ := h1
 obtain ⟨sb, hsb⟩ : ∃ b, decide (s.a.g.v = 0) = b := ⟨_, rfl⟩
 rw [hsb] at hr
 have HST := Lib.hid hr
 have us2 : (s.a.st == 2) = true := by simp [hst]
 have uz : (s.a.g.v == 0) = sb := by rw [← hsb]; cases hd : (s.a.g.v == 0) <;> simp_all
 clear hu hbn hst hr hsb
 have HW := Lib.hid h
 clear h
 go_enter Tryz.func73, Tryz.ntmps73
 go_wp2_with fail
 refine (aunder_at s ⟨x, o⟩ K rv _ HW.out HU.out).mono ?_
 simp only [CmdS.val]
 rintro e w5 ⟨rfl, hb5⟩
 have HW5 := Lib.hid (HW.out.below hb5)
 have HT5 : Hid (Turn K rv rv W w5) := Lib.hid (Turn.of_below hb5)
 clear hb5
 go_upto_region 2 with (fail)
 refine wp_name fun W6 hW => ?_
 obtain ⟨C, hB⟩ : ∃ B, B = w5.heap.size := ⟨_, rfl⟩
 have hbel : Below w5.heap.size w5 W6 := by rw [hW.out]; exact belowBy
 have hlC : C < W6.heap.size := by rw [hW.out, hB]; simp
 have c0 : W6.cell? ⟨C, 0, none⟩ = some (.int .i64 x.id) := by rw [hW.out, hB]; go_simp
 have c1 : W6.cell? ⟨C, 1, none⟩ = some (.int .i64 x.kind) := by rw [hW.out, hB]; go_simp
 have c2 : W6.cell? ⟨C, 2, none⟩ = some (.int .i64 x.target) := by rw [hW.out, hB]; go_simp
 have c3 : W6.cell? ⟨C, 3, none⟩ = some (.int .i64 x.speed) := by rw [hW.out, hB]; go_simp
 have c4 : W6.cell? ⟨C, 4, none⟩ = some (.int .i64 x.mode) := by rw [hW.out, hB]; go_simp
 have c5 : W6.cell? ⟨C, 5, none⟩ = some (.int .i64 x.num) := by rw [hW.out, hB]; go_simp
 have c6 : W6.cell? ⟨C, 6, none⟩ = some (.int .i64 x.den) := by rw [hW.out, hB]; go_simp
 have hKC : K < C := by have := HW5.out.lt; omega
 obtain ⟨sv, nv, wv, cv, hp⟩ := HW5.out.below hbel
 have HP6 := Lib.hid hp
 have HT6 := Lib.hid (HT5.out.trans (Turn.of_below hbel))
 obtain ⟨L, hL⟩ := axL_some s.a sv nv wv
 have HAL := Lib.hid hL
 have HRG := Lib.hid (hp.range hL)
 have lK6 := hp.lt
 (try rw [← hB])
 (try simp only [Act.put])
 clear hW hB hbel hp hL HW5 HT5
 go_wp2_with (refine wpList_load_mid rfl 35 _ rfl K 0 rfl L _ HRG.out Tryz.underlying35 rfl HAL.out.size ?_)
 refine (abounds_L s.a sv nv wv L b W6 HAL.out HBN.out).mono ?_
 rintro e w7 ⟨rfl, hb7⟩
 have HB7 := Lib.hid hb7
 clear hb7 lK6
 go_upto_region 3 with (fail)
 refine wp_name fun W8 hW => ?_
 obtain ⟨Y, hB⟩ : ∃ B, B = w7.heap.size := ⟨_, rfl⟩
 have hbel : Below w7.heap.size w7 W8 := by rw [hW.out]; exact belowBy
 have lY : Y < W8.heap.size := by rw [hW.out, hB]; simp
 have y0 : W8.cell? ⟨Y, 0, none⟩ = some (.int .i64 b.v) := by rw [hW.out, hB]; go_simp
 have y1 : W8.cell? ⟨Y, 1, none⟩ = some (.int .i64 b.a) := by rw [hW.out, hB]; go_simp
 have y2 : W8.cell? ⟨Y, 2, none⟩ = some (.int .i64 b.d) := by rw [hW.out, hB]; go_simp
 have y3 : W8.cell? ⟨Y, 3, none⟩ = some (.int .i64 b.lo) := by rw [hW.out, hB]; go_simp
 have y4 : W8.cell? ⟨Y, 4, none⟩ = some (.int .i64 b.hi) := by rw [hW.out, hB]; go_simp
 have hba : Below W6.heap.size W6 W8 := HB7.out.trans (hbel.mono HB7.out.size)
 have x0 := (hba.cell (p := ⟨C, 0, none⟩) hlC).trans c0
 have x1 := (hba.cell (p := ⟨C, 1, none⟩) hlC).trans c1
 have x2 := (hba.cell (p := ⟨C, 2, none⟩) hlC).trans c2
 have x3 := (hba.cell (p := ⟨C, 3, none⟩) hlC).trans c3
 have x4 := (hba.cell (p := ⟨C, 4, none⟩) hlC).trans c4
 have x5 := (hba.cell (p := ⟨C, 5, none⟩) hlC).trans c5
 have x6 := (hba.cell (p := ⟨C, 6, none⟩) hlC).trans c6
 have lC := Nat.lt_of_lt_of_le hlC hba.size
 have HP8 := Lib.hid (HP6.out.below hba)
 have HT8 := Lib.hid (HT6.out.trans (Turn.of_below hba))
 have hp8 := HP8.out
 (try rw [← hB])
 (try simp only [Act.put])
 clear hW hB hbel hba hlC c0 c1 c2 c3 c4 c5 c6 HP6 HT6 HB7 HRG HAL
 have c_st := hp8.cell 0 _ rfl
 have lK := hp8.lt
 have fK := hp8.froz
 clear hp8
 obtain ⟨N, hN⟩ : ∃ N, N = W8.heap.size := ⟨_, rfl⟩
 go_upto_region 4 with (fail)
 refine wp_region_held_drew (S := fun w' => Below N W8 w') (by kernel_rfl) ?_ (fun hHeld => ?_)
 ·exact (Below.refl _ _).drew
 refine tT 0 ?_ rfl ?_ ?_; rotate_left; (focus intros; go_simp; try rfl)
 refine tT 1 ?_ rfl ?_ ?_; rotate_left; (focus intros; go_simp; try rfl)
 refine tT 2 ?_ rfl ?_ ?_; rotate_left; (focus intros; go_simp; try rfl); (try simp only [ly])
 refine tT 3 ?_ rfl ?_ ?_; rotate_left; (focus intros; go_simp; try rfl)
 (refine tT 4 ?_ rfl ?_ ?_; rotate_left; (focus (intro w' hSw; (try dsimp only at hSw); (have hh := HP8.out.below (by rw [← hN]; exact hSw)); (have lw := hh.lt); (have f17 := hh.cell 17 _ rfl); (have f18 := hh.cell 18 _ rfl); (have f19 := hh.cell 19 _ rfl); (have f20 := hh.cell 20 _ rfl); go_simp; try (with_reducible rfl))))
 refine tT 5 ?_ rfl ?_ ?_; rotate_left; (focus intros; go_simp; try rfl); (try simp only [ly])
 refine tT 6 ?_ rfl ?_ ?_; rotate_left; (focus intros; go_simp; try rfl)
 refine tT 7 ?_ rfl ?_ ?_; rotate_left; (focus intros; go_simp; try rfl)
 refine tT 8 ?_ rfl ?_ ?_; rotate_left; (focus intros; go_simp; try rfl); (try simp only [ly])
 (refine tT 9 ?_ rfl ?_ ?_; rotate_left; (focus (intro w' hSw; (try dsimp only at hSw); (have hh := HP8.out.below (by rw [← hN]; exact hSw)); (have lw := hh.lt); (have f32 := hh.cell 32 _ rfl); go_simp; try (with_reducible rfl))))
 refine tT 10 ?_ rfl ?_ ?_; rotate_left; (focus intros; go_simp; try rfl)
 refine tT 11 ?_ rfl ?_ ?_; rotate_left; (focus intros; go_simp; try rfl); (try simp only [ly])
 refine tT 12 ?_ rfl ?_ ?_; rotate_left; (focus intros; go_simp; try rfl)
 refine tT 13 ?_ rfl ?_ ?_; rotate_left; (focus intros; go_simp; try rfl)
 (refine tT 14 ?_ rfl ?_ ?_; rotate_left; (focus (intro w' hSw; (try dsimp only at hSw); (have hh := HP8.out.below (by rw [← hN]; exact hSw)); (have lw := hh.lt); (have f30 := hh.cell 30 _ rfl); go_simp; try (with_reducible rfl))); (try simp only [ly]))
 refine tT 15 ?_ rfl ?_ ?_; rotate_left; (focus intros; go_simp; try rfl)
 refine tT 16 ?_ rfl ?_ ?_; rotate_left; (focus intros; go_simp; try rfl)
 refine tT 17 ?_ rfl ?_ ?_; rotate_left; (focus intros; go_simp; try rfl); (try simp only [ly])
 refine tT 18 ?_ rfl ?_ ?_; rotate_left; (focus intros; go_simp; try rfl)
 (refine tT 19 ?_ rfl ?_ ?_; rotate_left; (focus (intro w' hSw; (try dsimp only at hSw); (have hh := HP8.out.below (by rw [← hN]; exact hSw)); (have lw := hh.lt); (have f31 := hh.cell 31 _ rfl); go_simp; try (with_reducible rfl))))
 refine tT 20 ?_ rfl ?_ ?_; rotate_left; (focus intros; go_simp; try rfl); (try simp only [ly])
 refine tT 21 ?_ rfl ?_ ?_; rotate_left; (focus intros; go_simp; try rfl)
 refine tT 22 ?_ rfl ?_ ?_; rotate_left; (focus intros; go_simp; try rfl)
 refine tT 23 ?_ rfl ?_ ?_; rotate_left; (focus intros; go_simp; try rfl); (try simp only [ly])
 refine tT 24 ?_ rfl ?_ ?_; rotate_left; (focus intros; go_simp; try rfl)
 (refine tT 25 ?_ rfl ?_ ?_; rotate_left; (focus (intro w' hSw; (try dsimp only at hSw); (have hh := HP8.out.below (by rw [← hN]; exact hSw)); (have lw := hh.lt); (have f11 := hh.cell 11 _ rfl); go_simp; try (with_reducible rfl))))
 refine tT 26 ?_ rfl ?_ ?_; rotate_left; (focus intros; go_simp; try rfl); (try simp only [ly])
 refine twoX (i := 27) (j := 31) (by kernel_rfl) rfl rfl (fun Kc hK => ?o1) (fun Kc hK => ?o2)
 case' o1 =>
  go_simp
  go_at_call 96
  refine (hstep_at s.a.h.p s.a.h.f s.a.h.c s.a.h.t s.i.hm s.i.plus s.i.minus sb _ p1 f1 q1 t1 v HST.out).mono ?_
  rintro e w9 ⟨rfl, hb9⟩
  have hbc : Below N W8 w9 := hHeld.trans (hb9.mono (by rw [hN]; exact hHeld.size))
  go_wp2_with fail
  refine hK.out _ _ hbc (fun hHeld => ?_)
  clear hK Kc
  (try simp only [ly])
  refine tT 28 ?_ rfl ?_ ?_; rotate_left; (focus intros; go_simp; try rfl)
  refine tT 29 ?_ rfl ?_ ?_; rotate_left; (focus intros; go_simp; try rfl)
  refine tT 30 ?_ rfl ?_ ?_; rotate_left; (focus intros; go_simp; try rfl); (try simp only [ly])
  refine oneH (i := 31) (by kernel_rfl) rfl (fun Kc hK => ?_)
  go_simp
  have hba : Below N W8 (w9.alloc (.cells #[.int .i64 0, .int .i64 0, .int .i64 0, .bool false] 33)) := below_new hbc (by have := hbc.size; omega) _
  refine hK.out _ (w9.alloc (.cells #[.int .i64 0, .int .i64 0, .int .i64 0, .bool false] 33)) hba (fun hHeld => ?_)
  clear hK Kc
  (try simp only [ly])
  obtain ⟨BL, hBL⟩ : ∃ x, x = w9.heap.size := ⟨_, rfl⟩
  obtain ⟨WX, hWX⟩ : ∃ x, x = (w9.alloc (.cells #[.int .i64 0, .int .i64 0, .int .i64 0, .bool false] 33)) := ⟨_, rfl⟩
  have gL : WX.heap[BL]? = some (.cells #[.int .i64 0, .int .i64 0, .int .i64 0, .bool false] 33) := by rw [hWX, hBL]; exact heap_alloc_new _ _
  have hNB : N ≤ BL := by have := hbc.size; omega
  rw [← hWX] at hHeld hba ⊢
  (try rw [← hBL])
  clear hb9 hbc hWX hBL
 case' o2 =>
  go_simp
  have hba : Below N W8 (W8.drew.alloc (.cells #[.int .i64 0, .int .i64 0, .int .i64 0, .bool false] 33)) := below_new hHeld (by rw [hN]; exact Nat.le_refl _) _
  refine hK.out _ (W8.drew.alloc (.cells #[.int .i64 0, .int .i64 0, .int .i64 0, .bool false] 33)) hba (fun hHeld => ?_)
  clear hK Kc
  (try simp only [ly])
  refine oneH (i := 27) (by kernel_rfl) rfl (fun Kc hK => ?_)
  go_simp
  go_at_call 96
  refine (hstep_at s.a.h.p s.a.h.f s.a.h.c s.a.h.t s.i.hm s.i.plus s.i.minus sb _ p1 f1 q1 t1 v HST.out).mono ?_
  rintro e w9 ⟨rfl, hb9⟩
  have hbc : Below N W8 w9 := hba.trans (hb9.mono (by rw [hN]; exact hba.size))
  go_wp2_with fail
  refine hK.out _ _ hbc (fun hHeld => ?_)
  clear hK Kc
  (try simp only [ly])
  refine tT 28 ?_ rfl ?_ ?_; rotate_left; (focus intros; go_simp; try rfl)
  refine tT 29 ?_ rfl ?_ ?_; rotate_left; (focus intros; go_simp; try rfl)
  refine tT 30 ?_ rfl ?_ ?_; rotate_left; (focus intros; go_simp; try rfl); (try simp only [ly])
  obtain ⟨BL, hBL⟩ : ∃ x, x = W8.heap.size := ⟨_, rfl⟩
  have gL : w9.heap[BL]? = some (.cells #[.int .i64 0, .int .i64 0, .int .i64 0, .bool false] 33) := by rw [hBL]; exact (hb9.block _ (by simp)).trans (heap_alloc_new W8.drew _)
  obtain ⟨WX, hWX⟩ : ∃ x, x = w9 := ⟨_, rfl⟩
  have hNB : N ≤ BL := by omega
  rw [← hWX] at gL hHeld hbc ⊢
  (try rw [← hBL])
  have hba := hbc
  clear hb9 hbc hWX hBL
 all_goals
  have hlL : BL < WX.heap.size := (Array.getElem?_eq_some_iff.1 gL).1
  have g0 : WX.cell? ⟨BL, 0, none⟩ = some (.int .i64 0) := heap_cell 0 _ gL rfl
  have g1 : WX.cell? ⟨BL, 1, none⟩ = some (.int .i64 0) := heap_cell 1 _ gL rfl
  have g2 : WX.cell? ⟨BL, 2, none⟩ = some (.int .i64 0) := heap_cell 2 _ gL rfl
  have g3 : WX.cell? ⟨BL, 3, none⟩ = some (.bool false) := heap_cell 3 _ gL rfl
  have gf := fun o => frozen_of_row WX BL o _ _ gL
  refine oneH (i := 32) (by kernel_rfl) rfl (fun Kc hK => ?_)
  go_simp
  have hbs : Below N W8 ((((WX.setCell ⟨BL, 0, none⟩ (.int .i64 p1)).setCell ⟨BL, 1, none⟩ (.int .i64 f1)).setCell ⟨BL, 2, none⟩ (.int .i64 q1)).setCell ⟨BL, 3, none⟩ (.bool t1)) := Below.setCell (Below.setCell (Below.setCell (Below.setCell hba (by exact hNB) _) (by exact hNB) _) (by exact hNB) _) (by exact hNB) _
  refine hK.out _ _ hbs (fun hHeld => ?_)
  clear hK Kc
  (try simp only [ly])
  refine tT 33 ?_ rfl ?_ ?_; rotate_left; (focus intros; go_simp; try rfl); (try simp only [ly])
  refine wpAnyH_done (by kernel_rfl) ?_ _
  (try simp only [ly])
  obtain ⟨W10, hW10⟩ : ∃ x, x = ((((WX.setCell ⟨BL, 0, none⟩ (.int .i64 p1)).setCell ⟨BL, 1, none⟩ (.int .i64 f1)).setCell ⟨BL, 2, none⟩ (.int .i64 q1)).setCell ⟨BL, 3, none⟩ (.bool t1)) := ⟨_, rfl⟩
  have d0 : W10.cell? ⟨BL, 0, none⟩ = some (.int .i64 p1) := by rw [hW10]; go_simp
  have d1 : W10.cell? ⟨BL, 1, none⟩ = some (.int .i64 f1) := by rw [hW10]; go_simp
  have d2 : W10.cell? ⟨BL, 2, none⟩ = some (.int .i64 q1) := by rw [hW10]; go_simp
  have d3 : W10.cell? ⟨BL, 3, none⟩ = some (.bool t1) := by rw [hW10]; go_simp
  have l10 : BL < W10.heap.size := by rw [hW10]; simp; exact hlL
  rw [← hW10] at hbs ⊢
  rw [hN] at hbs
  have HP10 := Lib.hid (HP8.out.below hbs)
  have HT10 := Lib.hid (HT8.out.trans (Turn.of_below hbs))
  clear hbs hba gL g0 g1 g2 g3 gf hlL hHeld hW10 hNB hN c_st lK fK x0 x1 x2 x3 x4 x5 x6 y0 y1 y2 y3 y4 lC lY hKC
  have hp10 := HP10.out
  have c_hp := hp10.cell 17 _ rfl
  have c_hf := hp10.cell 18 _ rfl
  have c_hc := hp10.cell 19 _ rfl
  have c_ht := hp10.cell 20 _ rfl
  have lK := hp10.lt
  have fK := hp10.froz
  clear hp10
  have hf := HP10.out.put0 [(17, .int .i64 p1), (18, .int .i64 f1), (19, .int .i64 q1), (20, .bool t1)] { s with a := { s.a with h := ⟨p1, f1, q1, t1⟩ } } rfl rfl rfl rfl rfl (HP10.out.inv.h ⟨p1, f1, q1, t1⟩) rfl
  have HF := Lib.hid hf
  clear hf
  go_wp2
  go_ret2
  rw [HEQ.out]
  exact ⟨rfl, ⟨_, _, _, _, HF.out.1⟩, HT10.out.trans HF.out.2⟩

end Go.Proofs.YthhfnageadckkaaGreat
