/- Layer 15: is an axis right? -/
import Derived.Test.YthhfnageadckkaaGreatM23
namespace Go.Proofs.YthhfnageadckkaaGreat
open Go.RowKit
set_option linter.unusedVariables false
set_option linter.unusedSimpArgs false
attribute [local go_sem] ite_max ite_min vite_max vite_min ext_cell ext_frozen

theorem newA_form {l : LimS} {win hat fast creep : Int} {w w' : World} {e : Ending} (h : NewA l win hat fast creep w e w') : ∃ (cs : Array Value) (n : Int), cs.size = 26 ∧ cs.all (·.oneCell') = true ∧ e = .returned (.tuple #[.agg cs, .int .i64 n]) ∧ (madeB l win hat fast creep = true ∧ n = 0 ∨ madeB l win hat fast creep = false ∧ n = 1) := by
 rcases h with ⟨h, sv, rfl, hs, -⟩ | ⟨h, rfl⟩
 ·exact ⟨_, _, rfl, axC_oneC _ _ _ _ hs.one4 rfl rfl, rfl, .inl ⟨h, rfl⟩⟩
 ·exact ⟨_, _, rfl, zero_one, rfl, .inr ⟨h, rfl⟩⟩

theorem smr_at (zs : List Int) (E : Option Addr) (f : Nat) (r : Bool) (w : World) (h : SmV w zs (.slice E zs.length f)) (hr : rightW zs zs.length = r) :
  Calls Tryz.prog 24 #[.agg #[.slice E zs.length f]] w fun e w' => e = .returned (.bool r) ∧ Below w.heap.size w w' := by
 by_cases h0 : 0 < zs.length
 ·obtain ⟨b, off, c, e, h1, h2, h3, h4⟩ := h.at h0
  injection e with e1 e2 e3
  subst e1 e3
  exact sm_right_at zs b off zs.length f r w h1 h2 h3 h4 hr
 ·obtain rfl : zs = [] := by
   cases zs with
   | nil => rfl
   | cons x l => simp at h0
  obtain rfl : false = r := by rw [← hr]; rfl
  exact sm_right_nil E f w

set_option maxRecDepth 100000 in
set_option maxHeartbeats 16000000 in
theorem aright_at (a : AX) (sv nv wv : Value) (r : Bool) (w : World) (hs : SmV w a.sm sv) (hl : LineV w 0 a.ns a.ws (.agg #[nv, wv])) (hp : -9223372036854775808 ≤ a.g.p ∧ a.g.p ≤ 9223372036854775807) (hr : rightX a = r) :
  Calls Tryz.prog 11 #[.agg #[.int .i64 a.st, .int .i64 a.l.v, .int .i64 a.l.a, .int .i64 a.l.d, .int .i64 a.l.lo, .int .i64 a.l.hi, .int .i64 a.win, .int .i64 a.hat, .int .i64 a.fast, .int .i64 a.creep, .int .i64 a.g.p, .int .i64 a.g.v, sv, .int .i64 a.off, nv, wv, .bool a.hd, .int .i64 a.h.p, .int .i64 a.h.f, .int .i64 a.h.c, .bool a.h.t, .int .i64 a.ov, .int .i64 a.sta, .int .i64 a.mas, .int .i64 a.cau, .bool a.ins]] w fun e w' => e = .returned (.bool r) ∧ Below w.heap.size w w' := by
 obtain ⟨E, f, rfl, s1, s2, s3⟩ := id hs
 have HS := Lib.hid hs
 clear s3
 have HLI := Lib.hid hl
 have HR := Lib.hid hr
 have HP := Lib.hid hp
 obtain ⟨L, hL⟩ := axL_some a (.slice E a.sm.length f) nv wv
 have HL := Lib.hid hL
 clear hs hl hr hp hL
 go_enter Tryz.func11, Tryz.ntmps11
 go_upto_region 1 with (fail)
 refine wp_name fun W hW => ?_
 obtain ⟨B, hB⟩ : ∃ B, B = w.heap.size := ⟨_, rfl⟩
 have HB : Hid (Below w.heap.size w W) := by rw [hW.out]; exact Lib.hid (by exact belowBy)
 have hlt : B < W.heap.size := by rw [hW.out, hB]; simp
 have HK : Hid (W.heap[B]? = some (.cells L.toArray 35)) := by
  rw [hW.out, hB, HL.out.eq]
  exact Lib.hid (heap_alloc_new _ _)
 have HBw := Lib.hid hB
 (try rw [← hB])
 clear hW hB
 have q1 := heap_cell (w := W) 1 (.int .i64 a.l.v) HK.out (by rw [HL.out.eq]; rfl)
 have q2 := heap_cell (w := W) 2 (.int .i64 a.l.a) HK.out (by rw [HL.out.eq]; rfl)
 have q3 := heap_cell (w := W) 3 (.int .i64 a.l.d) HK.out (by rw [HL.out.eq]; rfl)
 have q4 := heap_cell (w := W) 4 (.int .i64 a.l.lo) HK.out (by rw [HL.out.eq]; rfl)
 have q5 := heap_cell (w := W) 5 (.int .i64 a.l.hi) HK.out (by rw [HL.out.eq]; rfl)
 have q6 := heap_cell (w := W) 6 (.int .i64 a.win) HK.out (by rw [HL.out.eq]; rfl)
 have q7 := heap_cell (w := W) 7 (.int .i64 a.hat) HK.out (by rw [HL.out.eq]; rfl)
 have q8 := heap_cell (w := W) 8 (.int .i64 a.fast) HK.out (by rw [HL.out.eq]; rfl)
 have q9 := heap_cell (w := W) 9 (.int .i64 a.creep) HK.out (by rw [HL.out.eq]; rfl)
 go_wp2_with fail
 refine (anew_any a.l a.win a.hat a.fast a.creep W).mono ?_
 rintro e w1 ⟨hn, hb1⟩
 obtain ⟨cs, n, hc1, hc2, rfl, hmd⟩ := newA_form hn
 have HC1 := Lib.hid hc1
 have HC2 := Lib.hid hc2
 have HB1 := Lib.hid (HB.out.trans (hb1.mono HB.out.size))
 have HK1 := Lib.hid ((hb1.block B hlt).trans HK.out)
 have hlt1 : B < w1.heap.size := Nat.lt_of_lt_of_le hlt hb1.size
 clear hn hb1 hc1 hc2 q1 q2 q3 q4 q5 q6 q7 q8 q9 HB HK hlt
 have hbx : Below w1.heap.size w1 w1 := Below.refl _ _
 rcases hmd with ⟨hmd, rfl⟩ | ⟨hmd, rfl⟩
 ·have HMD := Lib.hid hmd
  clear hmd hbx
  go_wp2_with (refine wpList_store_row rfl 35 _ _ rfl w1.heap.size cs rfl rfl 35 _ (heap_alloc_new _ _) (by rw [HC1.out]; exact axis_size) (by rw [HC1.out]; rfl) HC2.out ?_)
  refine wp_name fun W2 hW2 => ?_
  have hbx : Below w1.heap.size w1 W2 := by rw [hW2.out]; exact below_setRow (below_new (Below.refl _ _) (Nat.le_refl _) _) (Nat.le_refl _) _
  have HB2 := Lib.hid (HB1.out.trans (hbx.mono HB1.out.size))
  have HK2 := Lib.hid ((hbx.block B hlt1).trans HK1.out)
  have hlt2 : B < W2.heap.size := Nat.lt_of_lt_of_le hlt1 hbx.size
  clear hW2 hbx HB1 HK1 hlt1 HC1 HC2
  have HCL : Hid (∀ W', Below W2.heap.size W2 W' → W'.cell? ⟨B, 0, none⟩ = some (.int .i64 a.st) ∧ W'.cell? ⟨B, 12, none⟩ = some (.slice E a.sm.length f) ∧ W'.cell? ⟨B, 6, none⟩ = some (.int .i64 a.win) ∧ W'.cell? ⟨B, 10, none⟩ = some (.int .i64 a.g.p) ∧ W'.cell? ⟨B, 11, none⟩ = some (.int .i64 a.g.v)) := Lib.hid (fun W' hb => by
   have hk := (hb.block B hlt2).trans HK2.out
   exact ⟨heap_cell 0 _ hk (by rw [HL.out.eq]; rfl), heap_cell 12 _ hk (by rw [HL.out.eq]; rfl), heap_cell 6 _ hk (by rw [HL.out.eq]; rfl), heap_cell 10 _ hk (by rw [HL.out.eq]; rfl), heap_cell 11 _ hk (by rw [HL.out.eq]; rfl)⟩)
  have HRG : Hid (∀ W', Below W2.heap.size W2 W' → W'.rangeAt B 0 L) := Lib.hid (fun W' hb j u hu => by
   rw [Nat.zero_add]
   exact heap_cell j u ((hb.block B hlt2).trans HK2.out) (by rw [List.getElem?_toArray]; exact hu))
  obtain ⟨st, hst⟩ : ∃ x, a.st = x := ⟨_, rfl⟩
  rw [hst] at HCL
  have HST := Lib.hid hst
  clear hst
  by_cases e1 : st < 0
  ·obtain rfl : false = r := by
    rw [← HR.out]
    unfold rightX
    rw [HST.out, decide_eq_false (show ¬ (0 ≤ st ∧ st ≤ 7) by omega)]
    simp
   refine wp_region_held_drew (S := fun w' => Below W2.heap.size W2 w') (by kernel_rfl) ?_ (fun hHeld => ?_)
   ·exact (Below.refl _ _).drew
   refine tT 0 ?_ rfl ?_ ?_; rotate_left; (focus intros; go_simp; try rfl)
   (refine tT 1 ?_ rfl ?_ ?_; rotate_left; (focus (intro w' hSw; (try dsimp only at hSw); (have g := (HCL.out _ hSw).1); go_simp; try (with_reducible rfl))))
   refine tT 2 ?_ rfl ?_ ?_; rotate_left; (focus intros; go_simp; try rfl); (try simp only [ly])
   refine tT 3 ?_ rfl ?_ ?_; rotate_left; (focus intros; go_simp; try rfl)
   (refine takeU (i := 4) rfl ?_)
   (refine takeU (i := 5) rfl ?_; (try simp only [ly]))
   (refine takeU (i := 6) rfl ?_)
   refine tT 7 ?_ rfl ?_ ?_; rotate_left; (focus intros; go_simp; try rfl)
   refine tT 8 ?_ rfl ?_ ?_; rotate_left; (focus intros; go_simp; try rfl); (try simp only [ly])
   (refine takeU (i := 9) rfl ?_)
   (refine takeU (i := 10) rfl ?_)
   (refine takeU (i := 11) rfl ?_; (try simp only [ly]))
   (refine takeU (i := 12) rfl ?_)
   refine tT 13 ?_ rfl ?_ ?_; rotate_left; (focus intros; go_simp; try rfl)
   refine tT 14 ?_ rfl ?_ ?_; rotate_left; (focus intros; go_simp; try rfl); (try simp only [ly])
   (refine takeU (i := 15) rfl ?_)
   (refine takeU (i := 16) rfl ?_)
   (refine takeU (i := 17) rfl ?_; (try simp only [ly]))
   (refine takeU (i := 18) rfl ?_)
   (refine takeU (i := 19) rfl ?_)
   (refine takeU (i := 20) rfl ?_; (try simp only [ly]))
   (refine takeU (i := 21) rfl ?_)
   refine tT 22 ?_ rfl ?_ ?_; rotate_left; (focus intros; go_simp; try rfl)
   refine tT 23 ?_ rfl ?_ ?_; rotate_left; (focus intros; go_simp; try rfl); (try simp only [ly])
   (refine takeU (i := 24) rfl ?_)
   (refine takeU (i := 25) rfl ?_)
   (refine takeU (i := 26) rfl ?_; (try simp only [ly]))
   (refine takeU (i := 27) rfl ?_)
   (refine takeU (i := 28) rfl ?_)
   (refine takeU (i := 29) rfl ?_; (try simp only [ly]))
   refine tT 30 ?_ rfl ?_ ?_; rotate_left; (focus intros; go_simp; try rfl)
   refine tT 31 ?_ rfl ?_ ?_; rotate_left; (focus intros; go_simp; try rfl)
   (refine takeU (i := 32) rfl ?_; (try simp only [ly]))
   (refine takeU (i := 33) rfl ?_)
   (refine takeU (i := 34) rfl ?_)
   refine tT 35 ?_ rfl ?_ ?_; rotate_left; (focus intros; go_simp; try rfl); (try simp only [ly])
   refine wpAnyH_done (by kernel_rfl) ?_ _
   (try simp only [ly])
   have HW7 := Lib.hid (HB2.out.trans (hHeld.mono HB2.out.size))
   clear hHeld
   go_wp2
   go_ret
   exact ⟨rfl, HW7.out⟩
  by_cases e2 : 7 < st
  ·obtain rfl : false = r := by
    rw [← HR.out]
    unfold rightX
    rw [HST.out, decide_eq_false (show ¬ (0 ≤ st ∧ st ≤ 7) by omega)]
    simp
   refine wp_region_held_drew (S := fun w' => Below W2.heap.size W2 w') (by kernel_rfl) ?_ (fun hHeld => ?_)
   ·exact (Below.refl _ _).drew
   refine tT 0 ?_ rfl ?_ ?_; rotate_left; (focus intros; go_simp; try rfl)
   (refine tT 1 ?_ rfl ?_ ?_; rotate_left; (focus (intro w' hSw; (try dsimp only at hSw); (have g := (HCL.out _ hSw).1); go_simp; try (with_reducible rfl))))
   refine tT 2 ?_ rfl ?_ ?_; rotate_left; (focus intros; go_simp; try rfl); (try simp only [ly])
   refine tT 3 ?_ rfl ?_ ?_; rotate_left; (focus intros; go_simp; try rfl)
   refine tT 4 ?_ rfl ?_ ?_; rotate_left; (focus intros; go_simp; try rfl)
   (refine tT 5 ?_ rfl ?_ ?_; rotate_left; (focus (intro w' hSw; (try dsimp only at hSw); (have g := (HCL.out _ hSw).1); go_simp; try (with_reducible rfl))); (try simp only [ly]))
   refine tT 6 ?_ rfl ?_ ?_; rotate_left; (focus intros; go_simp; try rfl)
   refine tT 7 ?_ rfl ?_ ?_; rotate_left; (focus intros; go_simp; try rfl)
   refine tT 8 ?_ rfl ?_ ?_; rotate_left; (focus intros; go_simp; try rfl); (try simp only [ly])
   (refine takeU (i := 9) rfl ?_)
   (refine takeU (i := 10) rfl ?_)
   (refine takeU (i := 11) rfl ?_; (try simp only [ly]))
   (refine takeU (i := 12) rfl ?_)
   refine tT 13 ?_ rfl ?_ ?_; rotate_left; (focus intros; go_simp; try rfl)
   refine tT 14 ?_ rfl ?_ ?_; rotate_left; (focus intros; go_simp; try rfl); (try simp only [ly])
   (refine takeU (i := 15) rfl ?_)
   (refine takeU (i := 16) rfl ?_)
   (refine takeU (i := 17) rfl ?_; (try simp only [ly]))
   (refine takeU (i := 18) rfl ?_)
   (refine takeU (i := 19) rfl ?_)
   (refine takeU (i := 20) rfl ?_; (try simp only [ly]))
   (refine takeU (i := 21) rfl ?_)
   refine tT 22 ?_ rfl ?_ ?_; rotate_left; (focus intros; go_simp; try rfl)
   refine tT 23 ?_ rfl ?_ ?_; rotate_left; (focus intros; go_simp; try rfl); (try simp only [ly])
   (refine takeU (i := 24) rfl ?_)
   (refine takeU (i := 25) rfl ?_)
   (refine takeU (i := 26) rfl ?_; (try simp only [ly]))
   (refine takeU (i := 27) rfl ?_)
   (refine takeU (i := 28) rfl ?_)
   (refine takeU (i := 29) rfl ?_; (try simp only [ly]))
   refine tT 30 ?_ rfl ?_ ?_; rotate_left; (focus intros; go_simp; try rfl)
   refine tT 31 ?_ rfl ?_ ?_; rotate_left; (focus intros; go_simp; try rfl)
   (refine takeU (i := 32) rfl ?_; (try simp only [ly]))
   (refine takeU (i := 33) rfl ?_)
   (refine takeU (i := 34) rfl ?_)
   refine tT 35 ?_ rfl ?_ ?_; rotate_left; (focus intros; go_simp; try rfl); (try simp only [ly])
   refine wpAnyH_done (by kernel_rfl) ?_ _
   (try simp only [ly])
   have HW7 := Lib.hid (HB2.out.trans (hHeld.mono HB2.out.size))
   clear hHeld
   go_wp2
   go_ret
   exact ⟨rfl, HW7.out⟩
  obtain ⟨q1, hq1⟩ : ∃ x, rightW a.sm a.sm.length = x := ⟨_, rfl⟩
  have HQ1 := Lib.hid hq1
  have HSW := Lib.hid (HS.out.below (HB2.out))
  have HSR : Hid (∀ W', Below W2.heap.size W2 W' → Calls Tryz.prog 24 #[.agg #[.slice E a.sm.length f]] W' fun e w' => e = .returned (.bool q1) ∧ Below W'.heap.size W' w') := Lib.hid (fun W' hb => smr_at a.sm E f q1 W' (HSW.out.below hb) HQ1.out)
  clear hq1
  cases q1
  ·obtain rfl : false = r := by
    rw [← HR.out]
    unfold rightX
    rw [HQ1.out]
    simp
   refine wp_region_held_drew (S := fun w' => Below W2.heap.size W2 w') (by kernel_rfl) ?_ (fun hHeld => ?_)
   ·exact (Below.refl _ _).drew
   refine tT 0 ?_ rfl ?_ ?_; rotate_left; (focus intros; go_simp; try rfl)
   (refine tT 1 ?_ rfl ?_ ?_; rotate_left; (focus (intro w' hSw; (try dsimp only at hSw); (have g := (HCL.out _ hSw).1); go_simp; try (with_reducible rfl))))
   refine tT 2 ?_ rfl ?_ ?_; rotate_left; (focus intros; go_simp; try rfl); (try simp only [ly])
   refine tT 3 ?_ rfl ?_ ?_; rotate_left; (focus intros; go_simp; try rfl)
   refine tT 4 ?_ rfl ?_ ?_; rotate_left; (focus intros; go_simp; try rfl)
   (refine tT 5 ?_ rfl ?_ ?_; rotate_left; (focus (intro w' hSw; (try dsimp only at hSw); (have g := (HCL.out _ hSw).1); go_simp; try (with_reducible rfl))); (try simp only [ly]))
   refine tT 6 ?_ rfl ?_ ?_; rotate_left; (focus intros; go_simp; try rfl)
   refine tT 7 ?_ rfl ?_ ?_; rotate_left; (focus intros; go_simp; try rfl)
   refine tT 8 ?_ rfl ?_ ?_; rotate_left; (focus intros; go_simp; try rfl); (try simp only [ly])
   refine tT 9 ?_ rfl ?_ ?_; rotate_left; (focus intros; go_simp; try rfl)
   (refine tT 10 ?_ rfl ?_ ?_; rotate_left; (focus (intro w' hSw; (try dsimp only at hSw); (have g := (HCL.out _ hSw).2.1); go_simp; try (with_reducible rfl))); (try simp only [ly]))
   refine oneH (i := 11) (by kernel_rfl) rfl (fun Kc hK => ?_)
   go_simp
   go_at_call 24; refine (HSR.out _ hHeld).mono ?_; rintro e w7 ⟨rfl, hb7⟩; (have HB7 := Lib.hid (hHeld.trans (hb7.mono hHeld.size))); clear hb7 hHeld
   go_wp2_with fail
   refine hK.out _ _ (HB7.out) (fun hHeld => ?_)
   clear hK Kc
   (try simp only [ly])
   refine tT 12 ?_ rfl ?_ ?_; rotate_left; (focus intros; go_simp; try rfl)
   refine tT 13 ?_ rfl ?_ ?_; rotate_left; (focus intros; go_simp; try rfl)
   refine tT 14 ?_ rfl ?_ ?_; rotate_left; (focus intros; go_simp; try rfl); (try simp only [ly])
   (refine takeU (i := 15) rfl ?_)
   (refine takeU (i := 16) rfl ?_)
   (refine takeU (i := 17) rfl ?_; (try simp only [ly]))
   (refine takeU (i := 18) rfl ?_)
   (refine takeU (i := 19) rfl ?_)
   (refine takeU (i := 20) rfl ?_; (try simp only [ly]))
   (refine takeU (i := 21) rfl ?_)
   refine tT 22 ?_ rfl ?_ ?_; rotate_left; (focus intros; go_simp; try rfl)
   refine tT 23 ?_ rfl ?_ ?_; rotate_left; (focus intros; go_simp; try rfl); (try simp only [ly])
   (refine takeU (i := 24) rfl ?_)
   (refine takeU (i := 25) rfl ?_)
   (refine takeU (i := 26) rfl ?_; (try simp only [ly]))
   (refine takeU (i := 27) rfl ?_)
   (refine takeU (i := 28) rfl ?_)
   (refine takeU (i := 29) rfl ?_; (try simp only [ly]))
   refine tT 30 ?_ rfl ?_ ?_; rotate_left; (focus intros; go_simp; try rfl)
   refine tT 31 ?_ rfl ?_ ?_; rotate_left; (focus intros; go_simp; try rfl)
   (refine takeU (i := 32) rfl ?_; (try simp only [ly]))
   (refine takeU (i := 33) rfl ?_)
   (refine takeU (i := 34) rfl ?_)
   refine tT 35 ?_ rfl ?_ ?_; rotate_left; (focus intros; go_simp; try rfl); (try simp only [ly])
   refine wpAnyH_done (by kernel_rfl) ?_ _
   (try simp only [ly])
   have HW7 := Lib.hid (HB2.out.trans (hHeld.mono HB2.out.size))
   clear hHeld
   go_wp2
   go_ret
   exact ⟨rfl, HW7.out⟩
  by_cases e3 : (a.sm.length : Int) = a.win
  rotate_left
  ·have t3 : ((a.sm.length : Int) != a.win) = true := by simp [e3]
   obtain rfl : false = r := by
    rw [← HR.out]
    unfold rightX
    rw [decide_eq_false e3]
    simp
   refine wp_region_held_drew (S := fun w' => Below W2.heap.size W2 w') (by kernel_rfl) ?_ (fun hHeld => ?_)
   ·exact (Below.refl _ _).drew
   refine tT 0 ?_ rfl ?_ ?_; rotate_left; (focus intros; go_simp; try rfl)
   (refine tT 1 ?_ rfl ?_ ?_; rotate_left; (focus (intro w' hSw; (try dsimp only at hSw); (have g := (HCL.out _ hSw).1); go_simp; try (with_reducible rfl))))
   refine tT 2 ?_ rfl ?_ ?_; rotate_left; (focus intros; go_simp; try rfl); (try simp only [ly])
   refine tT 3 ?_ rfl ?_ ?_; rotate_left; (focus intros; go_simp; try rfl)
   refine tT 4 ?_ rfl ?_ ?_; rotate_left; (focus intros; go_simp; try rfl)
   (refine tT 5 ?_ rfl ?_ ?_; rotate_left; (focus (intro w' hSw; (try dsimp only at hSw); (have g := (HCL.out _ hSw).1); go_simp; try (with_reducible rfl))); (try simp only [ly]))
   refine tT 6 ?_ rfl ?_ ?_; rotate_left; (focus intros; go_simp; try rfl)
   refine tT 7 ?_ rfl ?_ ?_; rotate_left; (focus intros; go_simp; try rfl)
   refine tT 8 ?_ rfl ?_ ?_; rotate_left; (focus intros; go_simp; try rfl); (try simp only [ly])
   refine tT 9 ?_ rfl ?_ ?_; rotate_left; (focus intros; go_simp; try rfl)
   (refine tT 10 ?_ rfl ?_ ?_; rotate_left; (focus (intro w' hSw; (try dsimp only at hSw); (have g := (HCL.out _ hSw).2.1); go_simp; try (with_reducible rfl))); (try simp only [ly]))
   refine oneH (i := 11) (by kernel_rfl) rfl (fun Kc hK => ?_)
   go_simp
   go_at_call 24; refine (HSR.out _ hHeld).mono ?_; rintro e w7 ⟨rfl, hb7⟩; (have HB7 := Lib.hid (hHeld.trans (hb7.mono hHeld.size))); clear hb7 hHeld
   go_wp2_with fail
   refine hK.out _ _ (HB7.out) (fun hHeld => ?_)
   clear hK Kc
   (try simp only [ly])
   refine tT 12 ?_ rfl ?_ ?_; rotate_left; (focus intros; go_simp; try rfl)
   refine tT 13 ?_ rfl ?_ ?_; rotate_left; (focus intros; go_simp; try rfl)
   refine tT 14 ?_ rfl ?_ ?_; rotate_left; (focus intros; go_simp; try rfl); (try simp only [ly])
   refine tT 15 ?_ rfl ?_ ?_; rotate_left; (focus intros; go_simp; try rfl)
   refine tT 16 ?_ rfl ?_ ?_; rotate_left; (focus intros; go_simp; try rfl)
   (refine tT 17 ?_ rfl ?_ ?_; rotate_left; (focus (intro w' hSw; (try dsimp only at hSw); (have g := (HCL.out _ hSw).2.1); go_simp; try (with_reducible rfl))); (try simp only [ly]))
   refine tT 18 ?_ rfl ?_ ?_; rotate_left; (focus intros; go_simp; try rfl)
   refine tT 19 ?_ rfl ?_ ?_; rotate_left; (focus intros; go_simp; try rfl)
   (refine tT 20 ?_ rfl ?_ ?_; rotate_left; (focus (intro w' hSw; (try dsimp only at hSw); (have g := (HCL.out _ hSw).2.2.1); go_simp; try (with_reducible rfl))); (try simp only [ly]))
   refine tT 21 ?_ rfl ?_ ?_; rotate_left; (focus intros; go_simp; try rfl)
   refine tT 22 ?_ rfl ?_ ?_; rotate_left; (focus intros; go_simp; try rfl)
   refine tT 23 ?_ rfl ?_ ?_; rotate_left; (focus intros; go_simp; try rfl); (try simp only [ly])
   (refine takeU (i := 24) rfl ?_)
   (refine takeU (i := 25) rfl ?_)
   (refine takeU (i := 26) rfl ?_; (try simp only [ly]))
   (refine takeU (i := 27) rfl ?_)
   (refine takeU (i := 28) rfl ?_)
   (refine takeU (i := 29) rfl ?_; (try simp only [ly]))
   refine tT 30 ?_ rfl ?_ ?_; rotate_left; (focus intros; go_simp; try rfl)
   refine tT 31 ?_ rfl ?_ ?_; rotate_left; (focus intros; go_simp; try rfl)
   (refine takeU (i := 32) rfl ?_; (try simp only [ly]))
   (refine takeU (i := 33) rfl ?_)
   (refine takeU (i := 34) rfl ?_)
   refine tT 35 ?_ rfl ?_ ?_; rotate_left; (focus intros; go_simp; try rfl); (try simp only [ly])
   refine wpAnyH_done (by kernel_rfl) ?_ _
   (try simp only [ly])
   have HW7 := Lib.hid (HB2.out.trans (hHeld.mono HB2.out.size))
   clear hHeld
   go_wp2
   go_ret
   exact ⟨rfl, HW7.out⟩
  have t3 : ((a.sm.length : Int) != a.win) = false := by simp [e3]
  have hlr : rightB a.l = true := by
   have h := HMD.out
   unfold madeB at h
   simp only [Bool.and_eq_true] at h
   exact h.1.1.2
  have HBR := Lib.hid (bnd_right hlr)
  clear hlr
  obtain ⟨bd, hbd⟩ : ∃ x, bndX a = x := ⟨_, rfl⟩
  rw [hbd] at HBR
  have HBD := Lib.hid hbd
  have HBO : Hid (∀ W, Calls Tryz.prog 20 #[.agg L.toArray] W fun e w' => e = .returned (.agg #[.int .i64 bd.v, .int .i64 bd.a, .int .i64 bd.d, .int .i64 bd.lo, .int .i64 bd.hi]) ∧ Below W.heap.size W w') := Lib.hid (fun W => abounds_L a _ _ _ L bd W HL.out HBD.out)
  obtain ⟨q3, hq3⟩ : ∃ x, safeB bd a.g = x := ⟨_, rfl⟩
  have HQ3 := Lib.hid hq3
  have HSF : Hid (∀ W, Calls Tryz.prog 25 #[.agg #[.int .i64 bd.v, .int .i64 bd.a, .int .i64 bd.d, .int .i64 bd.lo, .int .i64 bd.hi], .agg #[.int .i64 a.g.p, .int .i64 a.g.v]] W fun e w' => e = .returned (.bool q3) ∧ Below W.heap.size W w') := Lib.hid (fun W => gsafe_at _ _ _ _ _ _ _ W HBR.out HP.out q3 HQ3.out)
  clear hq3 hbd
  cases q3
  ·obtain rfl : false = r := by
    rw [← HR.out]
    unfold rightX
    rw [HBD.out, HQ3.out]
    simp
   refine wp_region_held_drew (S := fun w' => Below W2.heap.size W2 w') (by kernel_rfl) ?_ (fun hHeld => ?_)
   ·exact (Below.refl _ _).drew
   refine tT 0 ?_ rfl ?_ ?_; rotate_left; (focus intros; go_simp; try rfl)
   (refine tT 1 ?_ rfl ?_ ?_; rotate_left; (focus (intro w' hSw; (try dsimp only at hSw); (have g := (HCL.out _ hSw).1); go_simp; try (with_reducible rfl))))
   refine tT 2 ?_ rfl ?_ ?_; rotate_left; (focus intros; go_simp; try rfl); (try simp only [ly])
   refine tT 3 ?_ rfl ?_ ?_; rotate_left; (focus intros; go_simp; try rfl)
   refine tT 4 ?_ rfl ?_ ?_; rotate_left; (focus intros; go_simp; try rfl)
   (refine tT 5 ?_ rfl ?_ ?_; rotate_left; (focus (intro w' hSw; (try dsimp only at hSw); (have g := (HCL.out _ hSw).1); go_simp; try (with_reducible rfl))); (try simp only [ly]))
   refine tT 6 ?_ rfl ?_ ?_; rotate_left; (focus intros; go_simp; try rfl)
   refine tT 7 ?_ rfl ?_ ?_; rotate_left; (focus intros; go_simp; try rfl)
   refine tT 8 ?_ rfl ?_ ?_; rotate_left; (focus intros; go_simp; try rfl); (try simp only [ly])
   refine tT 9 ?_ rfl ?_ ?_; rotate_left; (focus intros; go_simp; try rfl)
   (refine tT 10 ?_ rfl ?_ ?_; rotate_left; (focus (intro w' hSw; (try dsimp only at hSw); (have g := (HCL.out _ hSw).2.1); go_simp; try (with_reducible rfl))); (try simp only [ly]))
   refine oneH (i := 11) (by kernel_rfl) rfl (fun Kc hK => ?_)
   go_simp
   go_at_call 24; refine (HSR.out _ hHeld).mono ?_; rintro e w7 ⟨rfl, hb7⟩; (have HB7 := Lib.hid (hHeld.trans (hb7.mono hHeld.size))); clear hb7 hHeld
   go_wp2_with fail
   refine hK.out _ _ (HB7.out) (fun hHeld => ?_)
   clear hK Kc
   (try simp only [ly])
   refine tT 12 ?_ rfl ?_ ?_; rotate_left; (focus intros; go_simp; try rfl)
   refine tT 13 ?_ rfl ?_ ?_; rotate_left; (focus intros; go_simp; try rfl)
   refine tT 14 ?_ rfl ?_ ?_; rotate_left; (focus intros; go_simp; try rfl); (try simp only [ly])
   refine tT 15 ?_ rfl ?_ ?_; rotate_left; (focus intros; go_simp; try rfl)
   refine tT 16 ?_ rfl ?_ ?_; rotate_left; (focus intros; go_simp; try rfl)
   (refine tT 17 ?_ rfl ?_ ?_; rotate_left; (focus (intro w' hSw; (try dsimp only at hSw); (have g := (HCL.out _ hSw).2.1); go_simp; try (with_reducible rfl))); (try simp only [ly]))
   refine tT 18 ?_ rfl ?_ ?_; rotate_left; (focus intros; go_simp; try rfl)
   refine tT 19 ?_ rfl ?_ ?_; rotate_left; (focus intros; go_simp; try rfl)
   (refine tT 20 ?_ rfl ?_ ?_; rotate_left; (focus (intro w' hSw; (try dsimp only at hSw); (have g := (HCL.out _ hSw).2.2.1); go_simp; try (with_reducible rfl))); (try simp only [ly]))
   refine tT 21 ?_ rfl ?_ ?_; rotate_left; (focus intros; go_simp; try rfl)
   refine tT 22 ?_ rfl ?_ ?_; rotate_left; (focus intros; go_simp; try rfl)
   refine tT 23 ?_ rfl ?_ ?_; rotate_left; (focus intros; go_simp; try rfl); (try simp only [ly])
   (refine takeH (i := 24) (v := .agg L.toArray) rfl (by kernel_rfl) (by kernel_rfl) (by kernel_rfl) (fun _ _ _ h => h) (yieldsIf_load_mid (by kernel_rfl) 35 _ rfl B 0 rfl L _ (fun _ hb => HRG.out _ hb) Tryz.underlying35 rfl HL.out.size) (by assumption) ?_)
   refine tT 26 ?_ rfl ?_ ?_; rotate_left; (focus intros; go_simp; try rfl)
   (refine tT 27 ?_ rfl ?_ ?_; rotate_left; (focus (intro w' hSw; (try dsimp only at hSw); (have g := (HCL.out _ hSw).2.2.2.1); (have g2 := (HCL.out _ hSw).2.2.2.2); go_simp; try (with_reducible rfl))); (try simp only [ly]))
   refine oneH (i := 25) (by kernel_rfl) rfl (fun Kc hK => ?_)
   go_simp
   go_at_call 20; refine (HBO.out _).mono ?_; rintro e w8 ⟨rfl, hb8⟩; (have HB8 := Lib.hid (hHeld.trans (hb8.mono hHeld.size))); clear hb8 hHeld
   go_wp2_with fail
   refine hK.out _ _ (HB8.out) (fun hHeld => ?_)
   clear hK Kc
   (try simp only [ly])
   refine oneH (i := 28) (by kernel_rfl) rfl (fun Kc hK => ?_)
   go_simp
   go_at_call 25; refine (HSF.out _).mono ?_; rintro e w9 ⟨rfl, hb9⟩; (have HB9 := Lib.hid (hHeld.trans (hb9.mono hHeld.size))); clear hb9 hHeld
   go_wp2_with fail
   refine hK.out _ _ (HB9.out) (fun hHeld => ?_)
   clear hK Kc
   (try simp only [ly])
   refine tT 29 ?_ rfl ?_ ?_; rotate_left; (focus intros; go_simp; try rfl)
   refine tT 30 ?_ rfl ?_ ?_; rotate_left; (focus intros; go_simp; try rfl)
   refine tT 31 ?_ rfl ?_ ?_; rotate_left; (focus intros; go_simp; try rfl); (try simp only [ly])
   (refine takeU (i := 32) rfl ?_)
   (refine takeU (i := 33) rfl ?_)
   (refine takeU (i := 34) rfl ?_; (try simp only [ly]))
   refine tT 35 ?_ rfl ?_ ?_; rotate_left; (focus intros; go_simp; try rfl); (try simp only [ly])
   refine wpAnyH_done (by kernel_rfl) ?_ _
   (try simp only [ly])
   have HW7 := Lib.hid (HB2.out.trans (hHeld.mono HB2.out.size))
   clear hHeld
   go_wp2
   go_ret
   exact ⟨rfl, HW7.out⟩
  obtain ⟨q4, hq4⟩ : ∃ x, nearK a.g.p a.sm a.sm.length = x := ⟨_, rfl⟩
  have HQ4 := Lib.hid hq4
  have HNE : Hid (∀ W', Below W2.heap.size W2 W' → Calls Tryz.prog 26 #[.agg L.toArray] W' fun e w' => e = .returned (.bool q4) ∧ Below W'.heap.size W' w') := Lib.hid (fun W' hb => by
   rw [HL.out.eq]
   have h1 := safeB_yes HQ3.out
   have h2 := rightB_yes HBR.out
   exact anear_at a _ _ _ q4 W' (HSW.out.below hb) HQ1.out ⟨by omega, by omega⟩ HQ4.out)
  clear hq4
  cases q4
  ·obtain rfl : false = r := by
    rw [← HR.out]
    unfold rightX
    rw [HQ4.out]
    simp
   refine wp_region_held_drew (S := fun w' => Below W2.heap.size W2 w') (by kernel_rfl) ?_ (fun hHeld => ?_)
   ·exact (Below.refl _ _).drew
   refine tT 0 ?_ rfl ?_ ?_; rotate_left; (focus intros; go_simp; try rfl)
   (refine tT 1 ?_ rfl ?_ ?_; rotate_left; (focus (intro w' hSw; (try dsimp only at hSw); (have g := (HCL.out _ hSw).1); go_simp; try (with_reducible rfl))))
   refine tT 2 ?_ rfl ?_ ?_; rotate_left; (focus intros; go_simp; try rfl); (try simp only [ly])
   refine tT 3 ?_ rfl ?_ ?_; rotate_left; (focus intros; go_simp; try rfl)
   refine tT 4 ?_ rfl ?_ ?_; rotate_left; (focus intros; go_simp; try rfl)
   (refine tT 5 ?_ rfl ?_ ?_; rotate_left; (focus (intro w' hSw; (try dsimp only at hSw); (have g := (HCL.out _ hSw).1); go_simp; try (with_reducible rfl))); (try simp only [ly]))
   refine tT 6 ?_ rfl ?_ ?_; rotate_left; (focus intros; go_simp; try rfl)
   refine tT 7 ?_ rfl ?_ ?_; rotate_left; (focus intros; go_simp; try rfl)
   refine tT 8 ?_ rfl ?_ ?_; rotate_left; (focus intros; go_simp; try rfl); (try simp only [ly])
   refine tT 9 ?_ rfl ?_ ?_; rotate_left; (focus intros; go_simp; try rfl)
   (refine tT 10 ?_ rfl ?_ ?_; rotate_left; (focus (intro w' hSw; (try dsimp only at hSw); (have g := (HCL.out _ hSw).2.1); go_simp; try (with_reducible rfl))); (try simp only [ly]))
   refine oneH (i := 11) (by kernel_rfl) rfl (fun Kc hK => ?_)
   go_simp
   go_at_call 24; refine (HSR.out _ hHeld).mono ?_; rintro e w7 ⟨rfl, hb7⟩; (have HB7 := Lib.hid (hHeld.trans (hb7.mono hHeld.size))); clear hb7 hHeld
   go_wp2_with fail
   refine hK.out _ _ (HB7.out) (fun hHeld => ?_)
   clear hK Kc
   (try simp only [ly])
   refine tT 12 ?_ rfl ?_ ?_; rotate_left; (focus intros; go_simp; try rfl)
   refine tT 13 ?_ rfl ?_ ?_; rotate_left; (focus intros; go_simp; try rfl)
   refine tT 14 ?_ rfl ?_ ?_; rotate_left; (focus intros; go_simp; try rfl); (try simp only [ly])
   refine tT 15 ?_ rfl ?_ ?_; rotate_left; (focus intros; go_simp; try rfl)
   refine tT 16 ?_ rfl ?_ ?_; rotate_left; (focus intros; go_simp; try rfl)
   (refine tT 17 ?_ rfl ?_ ?_; rotate_left; (focus (intro w' hSw; (try dsimp only at hSw); (have g := (HCL.out _ hSw).2.1); go_simp; try (with_reducible rfl))); (try simp only [ly]))
   refine tT 18 ?_ rfl ?_ ?_; rotate_left; (focus intros; go_simp; try rfl)
   refine tT 19 ?_ rfl ?_ ?_; rotate_left; (focus intros; go_simp; try rfl)
   (refine tT 20 ?_ rfl ?_ ?_; rotate_left; (focus (intro w' hSw; (try dsimp only at hSw); (have g := (HCL.out _ hSw).2.2.1); go_simp; try (with_reducible rfl))); (try simp only [ly]))
   refine tT 21 ?_ rfl ?_ ?_; rotate_left; (focus intros; go_simp; try rfl)
   refine tT 22 ?_ rfl ?_ ?_; rotate_left; (focus intros; go_simp; try rfl)
   refine tT 23 ?_ rfl ?_ ?_; rotate_left; (focus intros; go_simp; try rfl); (try simp only [ly])
   (refine takeH (i := 24) (v := .agg L.toArray) rfl (by kernel_rfl) (by kernel_rfl) (by kernel_rfl) (fun _ _ _ h => h) (yieldsIf_load_mid (by kernel_rfl) 35 _ rfl B 0 rfl L _ (fun _ hb => HRG.out _ hb) Tryz.underlying35 rfl HL.out.size) (by assumption) ?_)
   refine tT 26 ?_ rfl ?_ ?_; rotate_left; (focus intros; go_simp; try rfl)
   (refine tT 27 ?_ rfl ?_ ?_; rotate_left; (focus (intro w' hSw; (try dsimp only at hSw); (have g := (HCL.out _ hSw).2.2.2.1); (have g2 := (HCL.out _ hSw).2.2.2.2); go_simp; try (with_reducible rfl))); (try simp only [ly]))
   refine oneH (i := 25) (by kernel_rfl) rfl (fun Kc hK => ?_)
   go_simp
   go_at_call 20; refine (HBO.out _).mono ?_; rintro e w8 ⟨rfl, hb8⟩; (have HB8 := Lib.hid (hHeld.trans (hb8.mono hHeld.size))); clear hb8 hHeld
   go_wp2_with fail
   refine hK.out _ _ (HB8.out) (fun hHeld => ?_)
   clear hK Kc
   (try simp only [ly])
   refine oneH (i := 28) (by kernel_rfl) rfl (fun Kc hK => ?_)
   go_simp
   go_at_call 25; refine (HSF.out _).mono ?_; rintro e w9 ⟨rfl, hb9⟩; (have HB9 := Lib.hid (hHeld.trans (hb9.mono hHeld.size))); clear hb9 hHeld
   go_wp2_with fail
   refine hK.out _ _ (HB9.out) (fun hHeld => ?_)
   clear hK Kc
   (try simp only [ly])
   refine tT 29 ?_ rfl ?_ ?_; rotate_left; (focus intros; go_simp; try rfl)
   refine tT 30 ?_ rfl ?_ ?_; rotate_left; (focus intros; go_simp; try rfl)
   refine tT 31 ?_ rfl ?_ ?_; rotate_left; (focus intros; go_simp; try rfl); (try simp only [ly])
   (refine takeH (i := 32) (v := .agg L.toArray) rfl (by kernel_rfl) (by kernel_rfl) (by kernel_rfl) (fun _ _ _ h => h) (yieldsIf_load_mid (by kernel_rfl) 35 _ rfl B 0 rfl L _ (fun _ hb => HRG.out _ hb) Tryz.underlying35 rfl HL.out.size) (by assumption) ?_; (try simp only [ly]))
   refine oneH (i := 33) (by kernel_rfl) rfl (fun Kc hK => ?_)
   go_simp
   go_at_call 26; refine (HNE.out _ hHeld).mono ?_; rintro e w10 ⟨rfl, hb10⟩; (have HB10 := Lib.hid (hHeld.trans (hb10.mono hHeld.size))); clear hb10 hHeld
   go_wp2_with fail
   refine hK.out _ _ (HB10.out) (fun hHeld => ?_)
   clear hK Kc
   (try simp only [ly])
   refine tT 34 ?_ rfl ?_ ?_; rotate_left; (focus intros; go_simp; try rfl)
   refine tT 35 ?_ rfl ?_ ?_; rotate_left; (focus intros; go_simp; try rfl); (try simp only [ly])
   refine wpAnyH_done (by kernel_rfl) ?_ _
   (try simp only [ly])
   have HW7 := Lib.hid (HB2.out.trans (hHeld.mono HB2.out.size))
   clear hHeld
   go_wp2
   go_ret
   exact ⟨rfl, HW7.out⟩
  refine wp_region_held_drew (S := fun w' => Below W2.heap.size W2 w') (by kernel_rfl) ?_ (fun hHeld => ?_)
  ·exact (Below.refl _ _).drew
  refine tT 0 ?_ rfl ?_ ?_; rotate_left; (focus intros; go_simp; try rfl)
  (refine tT 1 ?_ rfl ?_ ?_; rotate_left; (focus (intro w' hSw; (try dsimp only at hSw); (have g := (HCL.out _ hSw).1); go_simp; try (with_reducible rfl))))
  refine tT 2 ?_ rfl ?_ ?_; rotate_left; (focus intros; go_simp; try rfl); (try simp only [ly])
  refine tT 3 ?_ rfl ?_ ?_; rotate_left; (focus intros; go_simp; try rfl)
  refine tT 4 ?_ rfl ?_ ?_; rotate_left; (focus intros; go_simp; try rfl)
  (refine tT 5 ?_ rfl ?_ ?_; rotate_left; (focus (intro w' hSw; (try dsimp only at hSw); (have g := (HCL.out _ hSw).1); go_simp; try (with_reducible rfl))); (try simp only [ly]))
  refine tT 6 ?_ rfl ?_ ?_; rotate_left; (focus intros; go_simp; try rfl)
  refine tT 7 ?_ rfl ?_ ?_; rotate_left; (focus intros; go_simp; try rfl)
  refine tT 8 ?_ rfl ?_ ?_; rotate_left; (focus intros; go_simp; try rfl); (try simp only [ly])
  refine tT 9 ?_ rfl ?_ ?_; rotate_left; (focus intros; go_simp; try rfl)
  (refine tT 10 ?_ rfl ?_ ?_; rotate_left; (focus (intro w' hSw; (try dsimp only at hSw); (have g := (HCL.out _ hSw).2.1); go_simp; try (with_reducible rfl))); (try simp only [ly]))
  refine oneH (i := 11) (by kernel_rfl) rfl (fun Kc hK => ?_)
  go_simp
  go_at_call 24; refine (HSR.out _ hHeld).mono ?_; rintro e w7 ⟨rfl, hb7⟩; (have HB7 := Lib.hid (hHeld.trans (hb7.mono hHeld.size))); clear hb7 hHeld
  go_wp2_with fail
  refine hK.out _ _ (HB7.out) (fun hHeld => ?_)
  clear hK Kc
  (try simp only [ly])
  refine tT 12 ?_ rfl ?_ ?_; rotate_left; (focus intros; go_simp; try rfl)
  refine tT 13 ?_ rfl ?_ ?_; rotate_left; (focus intros; go_simp; try rfl)
  refine tT 14 ?_ rfl ?_ ?_; rotate_left; (focus intros; go_simp; try rfl); (try simp only [ly])
  refine tT 15 ?_ rfl ?_ ?_; rotate_left; (focus intros; go_simp; try rfl)
  refine tT 16 ?_ rfl ?_ ?_; rotate_left; (focus intros; go_simp; try rfl)
  (refine tT 17 ?_ rfl ?_ ?_; rotate_left; (focus (intro w' hSw; (try dsimp only at hSw); (have g := (HCL.out _ hSw).2.1); go_simp; try (with_reducible rfl))); (try simp only [ly]))
  refine tT 18 ?_ rfl ?_ ?_; rotate_left; (focus intros; go_simp; try rfl)
  refine tT 19 ?_ rfl ?_ ?_; rotate_left; (focus intros; go_simp; try rfl)
  (refine tT 20 ?_ rfl ?_ ?_; rotate_left; (focus (intro w' hSw; (try dsimp only at hSw); (have g := (HCL.out _ hSw).2.2.1); go_simp; try (with_reducible rfl))); (try simp only [ly]))
  refine tT 21 ?_ rfl ?_ ?_; rotate_left; (focus intros; go_simp; try rfl)
  refine tT 22 ?_ rfl ?_ ?_; rotate_left; (focus intros; go_simp; try rfl)
  refine tT 23 ?_ rfl ?_ ?_; rotate_left; (focus intros; go_simp; try rfl); (try simp only [ly])
  (refine takeH (i := 24) (v := .agg L.toArray) rfl (by kernel_rfl) (by kernel_rfl) (by kernel_rfl) (fun _ _ _ h => h) (yieldsIf_load_mid (by kernel_rfl) 35 _ rfl B 0 rfl L _ (fun _ hb => HRG.out _ hb) Tryz.underlying35 rfl HL.out.size) (by assumption) ?_)
  refine tT 26 ?_ rfl ?_ ?_; rotate_left; (focus intros; go_simp; try rfl)
  (refine tT 27 ?_ rfl ?_ ?_; rotate_left; (focus (intro w' hSw; (try dsimp only at hSw); (have g := (HCL.out _ hSw).2.2.2.1); (have g2 := (HCL.out _ hSw).2.2.2.2); go_simp; try (with_reducible rfl))); (try simp only [ly]))
  refine oneH (i := 25) (by kernel_rfl) rfl (fun Kc hK => ?_)
  go_simp
  go_at_call 20; refine (HBO.out _).mono ?_; rintro e w8 ⟨rfl, hb8⟩; (have HB8 := Lib.hid (hHeld.trans (hb8.mono hHeld.size))); clear hb8 hHeld
  go_wp2_with fail
  refine hK.out _ _ (HB8.out) (fun hHeld => ?_)
  clear hK Kc
  (try simp only [ly])
  refine oneH (i := 28) (by kernel_rfl) rfl (fun Kc hK => ?_)
  go_simp
  go_at_call 25; refine (HSF.out _).mono ?_; rintro e w9 ⟨rfl, hb9⟩; (have HB9 := Lib.hid (hHeld.trans (hb9.mono hHeld.size))); clear hb9 hHeld
  go_wp2_with fail
  refine hK.out _ _ (HB9.out) (fun hHeld => ?_)
  clear hK Kc
  (try simp only [ly])
  refine tT 29 ?_ rfl ?_ ?_; rotate_left; (focus intros; go_simp; try rfl)
  refine tT 30 ?_ rfl ?_ ?_; rotate_left; (focus intros; go_simp; try rfl)
  refine tT 31 ?_ rfl ?_ ?_; rotate_left; (focus intros; go_simp; try rfl); (try simp only [ly])
  (refine takeH (i := 32) (v := .agg L.toArray) rfl (by kernel_rfl) (by kernel_rfl) (by kernel_rfl) (fun _ _ _ h => h) (yieldsIf_load_mid (by kernel_rfl) 35 _ rfl B 0 rfl L _ (fun _ hb => HRG.out _ hb) Tryz.underlying35 rfl HL.out.size) (by assumption) ?_; (try simp only [ly]))
  refine oneH (i := 33) (by kernel_rfl) rfl (fun Kc hK => ?_)
  go_simp
  go_at_call 26; refine (HNE.out _ hHeld).mono ?_; rintro e w10 ⟨rfl, hb10⟩; (have HB10 := Lib.hid (hHeld.trans (hb10.mono hHeld.size))); clear hb10 hHeld
  go_wp2_with fail
  refine hK.out _ _ (HB10.out) (fun hHeld => ?_)
  clear hK Kc
  (try simp only [ly])
  refine tT 34 ?_ rfl ?_ ?_; rotate_left; (focus intros; go_simp; try rfl)
  refine tT 35 ?_ rfl ?_ ?_; rotate_left; (focus intros; go_simp; try rfl); (try simp only [ly])
  refine wpAnyH_done (by kernel_rfl) ?_ _
  (try simp only [ly])
  have HW7 := Lib.hid (HB2.out.trans (hHeld.mono HB2.out.size))
  have HK7 := Lib.hid ((hHeld.block B hlt2).trans HK2.out)
  clear hHeld HSR HNE HSF HBO HSW HCL HRG
  have q14 := heap_cell 14 nv HK7.out (by rw [HL.out.eq]; rfl)
  have q15 := heap_cell 15 wv HK7.out (by rw [HL.out.eq]; rfl)
  obtain ⟨q5, hq5⟩ : ∃ x, lineB a.ns a.ws = x := ⟨_, rfl⟩
  have HQ5 := Lib.hid hq5
  clear hq5
  go_wp2_with fail
  refine (lright_at a.ns a.ws _ 0 q5 _ (HLI.out.below HW7.out) HQ5.out).mono ?_
  rintro e w8 ⟨rfl, hb8⟩
  have HW8 := Lib.hid (HW7.out.trans (hb8.mono HW7.out.size))
  have hlt7 : B < w10.heap.size := (Array.getElem?_eq_some_iff.1 HK7.out).1
  have HK8 := Lib.hid ((hb8.block B hlt7).trans HK7.out)
  have HRG8 : Hid (w8.rangeAt B 0 L) := Lib.hid (fun j u hu => by
   rw [Nat.zero_add]
   exact heap_cell j u HK8.out (by rw [List.getElem?_toArray]; exact hu))
  clear hb8 q14 q15 HK7
  cases q5
  ·obtain rfl : false = r := by
    rw [← HR.out]
    unfold rightX
    rw [HQ5.out]
    simp
   go_wp2
   go_ret
   exact ⟨rfl, HW8.out⟩
  obtain ⟨q6, hq6⟩ : ∃ x, fitsX a = x := ⟨_, rfl⟩
  have HQ6 := Lib.hid hq6
  clear hq6
  have hly := lineB_yes HQ5.out
  have hlr : rightB a.l = true := by
   have h := HMD.out
   unfold madeB at h
   simp only [Bool.and_eq_true] at h
   exact h.1.1.2
  have hvv := rightB_yes hlr
  have HFI : Hid (Calls Tryz.prog 28 #[.agg L.toArray] w8 fun e w' => e = .returned (.bool q6) ∧ Below w8.heap.size w8 w') := Lib.hid (by
   rw [HL.out.eq]
   exact afits_at a _ nv wv q6 w8 rfl (HLI.out.below HW8.out) (by omega) (by omega) (by omega) HQ6.out)
  clear hly hlr hvv
  go_wp2_with (first
   | refine wpList_load_midG 35 _ rfl B 0 rfl L _ HRG8.out Tryz.underlying35 rfl HL.out.size (by kernel_rfl) ?_)
  refine HFI.out.mono ?_
  rintro e w9 ⟨rfl, hb9⟩
  have HW9 := Lib.hid (HW8.out.trans (hb9.mono HW8.out.size))
  have hlt8 : B < w8.heap.size := (Array.getElem?_eq_some_iff.1 HK8.out).1
  have HK9 := Lib.hid ((hb9.block B hlt8).trans HK8.out)
  clear hb9 HRG8 HFI HK8 hlt8
  have q0 := heap_cell 0 (.int .i64 st) HK9.out (by rw [HL.out.eq, ← HST.out]; rfl)
  have q13 := heap_cell 13 (.int .i64 a.off) HK9.out (by rw [HL.out.eq]; rfl)
  have q17 := heap_cell 17 (.int .i64 a.h.p) HK9.out (by rw [HL.out.eq]; rfl)
  have q18 := heap_cell 18 (.int .i64 a.h.f) HK9.out (by rw [HL.out.eq]; rfl)
  have q19 := heap_cell 19 (.int .i64 a.h.c) HK9.out (by rw [HL.out.eq]; rfl)
  have q20 := heap_cell 20 (.bool a.h.t) HK9.out (by rw [HL.out.eq]; rfl)
  have q21 := heap_cell 21 (.int .i64 a.ov) HK9.out (by rw [HL.out.eq]; rfl)
  clear HK9
  cases q6
  ·obtain rfl : false = r := by
    rw [← HR.out]
    unfold rightX
    rw [HQ6.out]
    simp
   go_wp2
   go_ret
   exact ⟨rfl, HW9.out⟩
  by_cases o1 : a.ov < 0
  ·obtain rfl : false = r := by
    rw [← HR.out]
    unfold rightX
    rw [decide_eq_false (show ¬ (0 ≤ a.ov ∧ a.ov ≤ 100) by omega)]
    simp
   go_wp2
   go_ret
   exact ⟨rfl, HW9.out⟩
  by_cases o2 : 100 < a.ov
  ·obtain rfl : false = r := by
    rw [← HR.out]
    unfold rightX
    rw [decide_eq_false (show ¬ (0 ≤ a.ov ∧ a.ov ≤ 100) by omega)]
    simp
   go_wp2
   go_ret
   exact ⟨rfl, HW9.out⟩
  by_cases o3 : a.off < -288230376151711744
  ·obtain rfl : false = r := by
    rw [← HR.out]
    unfold rightX
    rw [decide_eq_false (show ¬ (-288230376151711744 ≤ a.off ∧ a.off ≤ 288230376151711744) by omega)]
    simp
   go_wp2
   go_ret
   exact ⟨rfl, HW9.out⟩
  by_cases o4 : 288230376151711744 < a.off
  ·obtain rfl : false = r := by
    rw [← HR.out]
    unfold rightX
    rw [decide_eq_false (show ¬ (-288230376151711744 ≤ a.off ∧ a.off ≤ 288230376151711744) by omega)]
    simp
   go_wp2
   go_ret
   exact ⟨rfl, HW9.out⟩
  have hrr : (decide (st ≠ 2) || homeB a.h.p a.h.f a.h.c) = r := by
   rw [← HR.out]
   unfold rightX
   rw [HMD.out, HST.out, decide_eq_true (show 0 ≤ st ∧ st ≤ 7 by omega), HQ1.out, decide_eq_true e3, HBD.out, HQ3.out, HQ4.out, HQ5.out, HQ6.out, decide_eq_true (show 0 ≤ a.ov ∧ a.ov ≤ 100 by omega), decide_eq_true (show -288230376151711744 ≤ a.off ∧ a.off ≤ 288230376151711744 by omega)]
   simp
  by_cases s2 : st = 2
  ·subst s2
   obtain rfl : homeB a.h.p a.h.f a.h.c = r := by rw [← hrr]; rfl
   clear hrr HR
   go_wp2_with fail
   refine (hright_any _ _ _ _ _).mono ?_
   rintro e w11 ⟨rfl, hb11⟩
   have HWB := Lib.hid (HW9.out.trans (hb11.mono HW9.out.size))
   clear hb11
   go_wp2
   go_ret
   exact ⟨rfl, HWB.out⟩
  ·obtain rfl : true = r := by rw [← hrr]; simp [s2]
   have t2 : (st != 2) = true := by simp [s2]
   clear hrr HR s2
   go_wp2
   go_ret
   exact ⟨rfl, HW9.out⟩
 ·obtain rfl : false = r := by rw [← HR.out]; unfold rightX; rw [hmd]; rfl
  clear hmd hbx
  go_wp2_with (refine wpList_store_row rfl 35 _ _ rfl w1.heap.size cs rfl rfl 35 _ (heap_alloc_new _ _) (by rw [HC1.out]; exact axis_size) (by rw [HC1.out]; rfl) HC2.out ?_)
  go_ret
  refine ⟨rfl, ?_⟩
  have hbf : Below B w w1 := by rw [HBw.out]; exact HB1.out
  rw [← HBw.out]
  exact below_setRow (below_new hbf (Nat.le_of_eq HBw.out) _) (Nat.le_of_lt hlt1) _

end Go.Proofs.YthhfnageadckkaaGreat
