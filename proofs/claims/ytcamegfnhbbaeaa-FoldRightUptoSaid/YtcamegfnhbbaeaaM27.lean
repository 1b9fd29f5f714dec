/- Merged: Layer 21: the laws are awake. Layer 21: any program is folded as the document says: the walk. -/
import Derived.Test.YtcamegfnhbbaeaaM09
import Derived.Test.YtcamegfnhbbaeaaM31
import Derived.Test.YtcamegfnhbbaeaaM29
import Derived.Test.YtcamegfnhbbaeaaM28
import Derived.Test.YtcamegfnhbbaeaaM30
namespace Go.Proofs.Ytcamegfnhbbaeaa
open Go.RowKit
set_option linter.unusedVariables false
set_option linter.unusedSimpArgs false
attribute [local go_sem] ite_max ite_min vite_max vite_min ext_cell ext_frozen

set_option maxRecDepth 100000 in
set_option maxHeartbeats 2000000 in
theorem awake21 (w : World) : Calls Try.prog 6 #[] w fun e w' => e = .returned (.bool true) ∧ Below w.heap.size w w' := by
  go_enter Try.func6, Try.ntmps6
  go_wp2_with fail
  refine (fexpr_mul w.heap.size _ (by simp) ?hc).mono ?_
  case hc => exact fun j u hu => heap_cell j _ (heap_alloc_new w _) (by rw [List.getElem?_toArray]; exact hu)
  rintro e w1 ⟨⟨s1, s2, rfl⟩, hb1⟩
  have hz1 : w.heap.size + 1 ≤ w1.heap.size := by have := hb1.size; simp at this; omega
  have hB1 : Below w.heap.size w w1 := by (repeat' (first | (with_reducible exact Below.refl _ _) | (with_reducible assumption) | (with_reducible refine below_drewN ?_ _) | (with_reducible refine Below.drew ?_) | (with_reducible refine below_new ?_ (Nat.le_refl _) _) | (with_reducible refine Below.setCell ?_ ?_ _) | (with_reducible refine below_go ?_ (by assumption) (Nat.le_refl _)) | (simp; done) | (simp; omega) | omega))
  clear hb1
  go_upto_region 2 with (fail)
  refine wp_name fun W hW => ?_
  have c0 : W.cell? ⟨w1.heap.size, 0, none⟩ = some (.int .i64 1) := by rw [hW.out]; go_simp
  have c1 : W.cell? ⟨w1.heap.size, 1, none⟩ = some (.int .i64 6) := by rw [hW.out]; go_simp
  have hl : w1.heap.size < W.heap.size := by rw [hW.out]; simp
  have hBW : Below w.heap.size w W := by rw [hW.out]; (repeat' (first | (with_reducible exact Below.refl _ _) | (with_reducible assumption) | (with_reducible refine below_drewN ?_ _) | (with_reducible refine Below.drew ?_) | (with_reducible refine below_new ?_ (Nat.le_refl _) _) | (with_reducible refine Below.setCell ?_ ?_ _) | (with_reducible refine below_go ?_ (by assumption) (Nat.le_refl _)) | (simp; done) | (simp; omega) | omega))
  have hzW := hBW.size
  clear hW hB1
  have HLI : Hid (Lies (W.alloc (.cells #[.int .i64 2, .int .i64 5] 2)) (W.heap.size + 1) 1 (some ⟨W.heap.size, 0, none⟩) 2 (intsF [2, 5])) := Lib.hid ⟨rfl, fun _ => ⟨_, 0, rfl, Nat.lt_succ_self _, fun j u hu => by
    rw [Nat.zero_add]
    exact heap_cell j _ (heap_alloc_new W _) (by rw [List.getElem?_toArray]; exact hu)⟩⟩
  go_wp2_with fail
  refine (fop_any 9 [2, 5] false _ 2 2 _ ?hlies (by omega) (by omega) (by intro z hz; simp at hz; omega)).mono ?_
  case hlies => exact HLI.out.wide (by simp)
  rintro e w2 ⟨rfl, hb2⟩
  rw [show opV (opF 9 [2, 5] false) = .tuple #[.int .i64 (-3), .bool false, .int .i64 0] from by kernel_rfl]
  obtain ⟨hb2c, hb2f⟩ := bcell hb2
  have hb2z := hb2.size
  have hb2c0 := fun o => hb2c (w1.heap.size) o (by first | (simp; done) | (simp; omega) | (simp at *; omega) | omega)
  have hb2f0 := fun o => hb2f (w1.heap.size) o (by first | (simp; done) | (simp; omega) | (simp at *; omega) | omega)
  have hb2l0 := below_lt (b := w1.heap.size) hb2 (by first | (simp; done) | (simp; omega) | (simp at *; omega) | omega)
  go_wp2
  go_ret
  exact ⟨rfl, by (repeat' (first | (with_reducible exact Below.refl _ _) | (with_reducible assumption) | (with_reducible refine below_drewN ?_ _) | (with_reducible refine Below.drew ?_) | (with_reducible refine below_new ?_ (Nat.le_refl _) _) | (with_reducible refine Below.setCell ?_ ?_ _) | (with_reducible refine below_go ?_ (by assumption) (Nat.le_refl _)) | (simp; done) | (simp; omega) | omega))⟩
end Go.Proofs.Ytcamegfnhbbaeaa

namespace Go.Proofs.Ytcamegfnhbbaeaa
open Go.RowKit
set_option linter.unusedVariables false
set_option linter.unusedSimpArgs false
attribute [local go_sem] ite_max ite_min vite_max vite_min ext_cell ext_frozen

theorem showV_form (p : Prg) : ∃ tx cd, showV p true = .tuple #[.string tx, .int .i64 cd] := by
  unfold showV
  rw [if_pos rfl]
  split
  · exact ⟨_, _, rfl⟩
  · exact ⟨_, _, rfl⟩

set_option maxRecDepth 100000 in
set_option maxHeartbeats 8000000 in
theorem walk_FoldRight (p : Prg) (cs : List Value) (w : World) (h : PrgAt w p cs) (hsm : ∀ s ∈ p.body, SmS s) (hnd : nodesSs p.body ≤ 16777216) : Calls Try.prog 4 #[.agg cs.toArray] w fun e w' => e = .returned (.bool true) ∧ Below w.heap.size w w' := by
  have HFT0 := Lib.hid (fun W (hW : Below w.heap.size w W) => fits_is p cs W (h.keep hW) hsm)
  have HSH0 := Lib.hid (fun W (hW : Below w.heap.size w W) (hf : fitPB p = true) => show_of p cs W (h.keep hW) true (fun V hV => by
    have h1 := fits_is p cs V (h.keep (hW.trans (hV.mono hW.size))) hsm
    rw [hf] at h1
    exact h1) (fun _ => fitPB_fit hf) hnd)
  obtain ⟨Av, kv, Ab, kb, rfl, hv, hbd⟩ := h
  have HP : Hid (PrgAt w p [.string p.name, .slice Av p.vars.length kv, .slice Ab p.body.length kb]) := Lib.hid ⟨Av, kv, Ab, kb, rfl, hv, hbd⟩
  have HRV := Lib.hid hv
  have HRB := Lib.hid hbd
  have hv1 := hv.1
  have hv2 := hv.2.1
  have hb1' := hbd.1
  have hb2' := hbd.2.1
  obtain ⟨bf, hbf⟩ : ∃ b, fitPB p = b := ⟨_, rfl⟩
  rw [hbf] at HFT0
  have HBF := Lib.hid hbf
  clear hv hbd hsm hbf hnd
  go_enter Try.func4, Try.ntmps4
  go_upto_region 1 with (fail)
  refine wp_name fun W0 hW0 => ?_
  obtain ⟨B, hB⟩ : ∃ B, B = w.heap.size := ⟨_, rfl⟩
  have hh : W0.heap[B]? = some (.cells #[.string p.name, .slice Av p.vars.length kv, .slice Ab p.body.length kb] 30) := by rw [hW0.out, hB]; exact heap_alloc_new _ _
  have hbel : Below w.heap.size w W0 := by rw [hW0.out]; (repeat' (first | (with_reducible exact Below.refl _ _) | (with_reducible assumption) | (with_reducible refine below_drewN ?_ _) | (with_reducible refine Below.drew ?_) | (with_reducible refine below_new ?_ (Nat.le_refl _) _) | (with_reducible refine Below.setCell ?_ ?_ _) | (with_reducible refine below_go ?_ (by assumption) (Nat.le_refl _)) | (simp; done) | (simp; omega) | omega))
  have hs0 : W0.heap.size = B + 1 := by rw [hW0.out, hB]; simp
  have hCW : ∀ W, Below W0.heap.size W0 W → W.cell? ⟨B, 0, none⟩ = some (.string p.name) ∧ W.cell? ⟨B, 1, none⟩ = some (.slice Av p.vars.length kv) ∧ W.cell? ⟨B, 2, none⟩ = some (.slice Ab p.body.length kb) ∧ B < W.heap.size ∧ Below w.heap.size w W := fun W hb => by
    have hl : B < W0.heap.size := (Array.getElem?_eq_some_iff.1 hh).1
    exact ⟨(hb.cell (p := ⟨B, 0, none⟩) hl).trans (heap_cell 0 _ hh rfl), (hb.cell (p := ⟨B, 1, none⟩) hl).trans (heap_cell 1 _ hh rfl), (hb.cell (p := ⟨B, 2, none⟩) hl).trans (heap_cell 2 _ hh rfl), Nat.lt_of_lt_of_le hl hb.size, hbel.trans (hb.mono hbel.size)⟩
  have HCW := Lib.hid hCW
  have HS0 := Lib.hid hs0
  have HBW := Lib.hid hB
  rw [← hB]
  clear hh hbel hW0 hB hCW hs0
  go_wp2_with fail
  refine (awake21 _).mono ?_
  rintro e w1 ⟨rfl, hb1⟩
  obtain ⟨c0, c1, c2, hl1, hw1⟩ := HCW.out w1 hb1
  have HB1 := Lib.hid hb1
  have HW1 := Lib.hid hw1
  clear hb1 hw1
  go_wp2_with fail
  refine (short_any p _ _ (HP.out.keep HW1.out)).mono ?_
  rintro e w2 ⟨⟨b, rfl⟩, hb2⟩
  have hb2' := HB1.out.trans (hb2.mono HB1.out.size)
  clear c0 c1 c2 hl1
  obtain ⟨c0, c1, c2, hl2, hw2⟩ := HCW.out w2 hb2'
  have HB2 := Lib.hid hb2'
  have HW2 := Lib.hid hw2
  clear hb2 hb2' hw2 HB1 HW1
  cases b
  · go_wp2
    go_ret
    exact ⟨rfl, HW2.out⟩
  go_wp2_with fail
  refine (HFT0.out _ HW2.out).mono ?_
  rintro e w3 ⟨rfl, hb3⟩
  have hb3' := HB2.out.trans (hb3.mono HB2.out.size)
  clear c0 c1 c2 hl2
  obtain ⟨c0, c1, c2, hl3, hw3⟩ := HCW.out w3 hb3'
  have HB3 := Lib.hid hb3'
  have HW3 := Lib.hid hw3
  clear hb3 hb3' hw3 HB2 HW2 HFT0
  cases bf
  · go_wp2
    go_ret
    exact ⟨rfl, HW3.out⟩
  have HSH : Hid (∀ W, Below w.heap.size w W → Calls Try.prog 11 #[.agg [.string p.name, .slice Av p.vars.length kv, .slice Ab p.body.length kb].toArray] W fun e w' => e = .returned (showV p true) ∧ Below W.heap.size W w') := Lib.hid (fun W hW => HSH0.out W hW HBF.out)
  obtain ⟨tx, cd, htx⟩ := showV_form p
  rw [htx] at HSH
  have HNG : Hid (∀ s ∈ p.body, NegS s) := Lib.hid (fun s hs => ((fitPB_fit HBF.out).body s hs).neg)
  clear HSH0 htx
  go_wp2_with fail
  refine (HSH.out _ HW3.out).mono ?_
  rintro e w4 ⟨rfl, hb4⟩
  have hb4' := HB3.out.trans (hb4.mono HB3.out.size)
  clear c0 c1 c2 hl3
  obtain ⟨c0, c1, c2, hl4, hw4⟩ := HCW.out w4 hb4'
  have HB4 := Lib.hid hb4'
  have HW4 := Lib.hid hw4
  clear hb4 hb4' hw4 HB3 HW3
  go_upto_region 7 with (refine wpList_store_new rfl 30 _ _ rfl w4 _ (prA p.name Av p.vars.length kv Ab p.body.length kb) rfl rfl rfl prog_size rfl (prA_one _ _ _ _ _ _ _) ?_)
  refine wp_name fun W5 hW5 => ?_
  obtain ⟨G, hG⟩ : ∃ G, G = w4.heap.size := ⟨_, rfl⟩
  have hh : W5.heap[G]? = some (.cells (prA p.name Av p.vars.length kv Ab p.body.length kb) 30) := by rw [hW5.out, hG]; exact heap_alloc_new _ _
  have hbel : Below w4.heap.size w4 W5 := by rw [hW5.out]; (repeat' (first | (with_reducible exact Below.refl _ _) | (with_reducible assumption) | (with_reducible refine below_drewN ?_ _) | (with_reducible refine Below.drew ?_) | (with_reducible refine below_new ?_ (Nat.le_refl _) _) | (with_reducible refine Below.setCell ?_ ?_ _) | (with_reducible refine below_go ?_ (by assumption) (Nat.le_refl _)) | (simp; done) | (simp; omega) | omega))
  have hs5 : W5.heap.size = G + 1 := by rw [hW5.out, hG]; simp
  have hb5 := HB4.out.trans (hbel.mono HB4.out.size)
  have hBG : B + 1 ≤ G := by have := HB4.out.size; have := HS0.out; omega
  rw [← hG]
  (try simp only [Act.put])
  clear c0 c1 c2 hl4
  obtain ⟨c0, c1, c2, hl5, hw5⟩ := HCW.out W5 hb5
  have HH5 := Lib.hid hh
  have HB5 := Lib.hid hb5
  have HW5 := Lib.hid hw5
  have HS5 := Lib.hid hs5
  clear hh hbel hW5 hG hb5 hw5 hs5 HB4 HW4
  go_wp2_with fail
  refine (rstmts_at _ p.body (Nat.lt_succ_self _) HNG.out (fun i => decide (i < w.heap.size)) _ Ab kb (HRB.out.move (moves_old HW5.out))).mono ?_
  rintro e w6 ⟨⟨A6, c6, rfl, hr6⟩, hb6⟩
  obtain ⟨ys, hys⟩ : ∃ ys, foldSs opF p.body = ys := ⟨_, rfl⟩
  rw [hys] at hr6 ⊢
  have HYS := Lib.hid hys
  have hGl : G < W5.heap.size := by have := HS5.out; omega
  have hh6 := (hb6.block G hGl).trans HH5.out
  have d2 : w6.cell? ⟨G, 2, none⟩ = some (.slice Ab p.body.length kb) := heap_cell 2 _ hh6 rfl
  have df : w6.frozen? ⟨G, 2, none⟩ = false := heap_free 2 hh6
  have HH6 := Lib.hid hh6
  have HR6 := Lib.hid hr6
  have HB6 := Lib.hid (HB5.out.trans (hb6.mono HB5.out.size))
  have hz6 := hb6.size
  clear c0 c1 c2 hl5 hh6 hr6 hb6 hys
  go_upto_region 8 with (fail)
  refine wp_name fun W7 hW7 => ?_
  have hh7 : W7.heap[G]? = some (.cells #[.string p.name, .slice Av p.vars.length kv, .slice A6 ys.length c6] 30) := by rw [hW7.out]; exact cells_set HH6.out
  have hb7 : Below W0.heap.size W0 W7 := by
    rw [hW7.out]
    exact HB6.out.setCell (by show W0.heap.size ≤ G; rw [HS0.out]; exact hBG) _
  have hr7 : RowT W7 A6 ys c6 := by
    refine HR6.out.move (Moves.trans (.onlyW (q := orNew (fun i => decide (i < w.heap.size)) W5.heap.size) (by rw [hW7.out]; simp) fun b hb hp => ⟨hp, ?_⟩) (Moves.only _ _))
    rw [orNew_iff] at hp
    have hw0 := HBW.out
    have hs := HS5.out
    rw [hW7.out, heap_setCell_other _ _ _ _ (by
      show b ≠ G
      rcases hp with ⟨_, hp⟩ | hp
      · have := of_decide_eq_true hp
        omega
      · omega)]
  have HB7 := Lib.hid hb7
  have HR7 := Lib.hid hr7
  have hz7 : W7.heap.size = w6.heap.size := by rw [hW7.out]; simp
  have hGl7 : G < W7.heap.size := by omega
  have HCG : Hid (∀ W, Below W7.heap.size W7 W → (W.cell? ⟨B, 0, none⟩ = some (.string p.name) ∧ W.cell? ⟨B, 1, none⟩ = some (.slice Av p.vars.length kv) ∧ W.cell? ⟨B, 2, none⟩ = some (.slice Ab p.body.length kb)) ∧ W.cell? ⟨G, 0, none⟩ = some (.string p.name) ∧ W.cell? ⟨G, 1, none⟩ = some (.slice Av p.vars.length kv) ∧ W.cell? ⟨G, 2, none⟩ = some (.slice A6 ys.length c6)) := Lib.hid (fun W hW => by
    obtain ⟨a0, a1, a2, -, -⟩ := HCW.out W (HB7.out.trans (hW.mono HB7.out.size))
    exact ⟨⟨a0, a1, a2⟩, (hW.cell (p := ⟨G, 0, none⟩) hGl7).trans (heap_cell 0 _ hh7 rfl), (hW.cell (p := ⟨G, 1, none⟩) hGl7).trans (heap_cell 1 _ hh7 rfl), (hW.cell (p := ⟨G, 2, none⟩) hGl7).trans (heap_cell 2 _ hh7 rfl)⟩)
  have HW7 := Lib.hid (HCW.out W7 HB7.out).2.2.2.2
  clear hW7 hh7 hb7 hr7 d2 df HH6 HH5 HB5 HB6 HR6 hz7 hz6 hGl
  refine wp_region_held_drew (S := fun W => (W.cell? ⟨B, 0, none⟩ = some (.string p.name) ∧ W.cell? ⟨B, 1, none⟩ = some (.slice Av p.vars.length kv) ∧ W.cell? ⟨B, 2, none⟩ = some (.slice Ab p.body.length kb)) ∧ W.cell? ⟨G, 0, none⟩ = some (.string p.name) ∧ W.cell? ⟨G, 1, none⟩ = some (.slice Av p.vars.length kv) ∧ W.cell? ⟨G, 2, none⟩ = some (.slice A6 ys.length c6)) (by kernel_rfl) (HCG.out _ (by (repeat' (first | (with_reducible exact Below.refl _ _) | (with_reducible assumption) | (with_reducible refine below_drewN ?_ _) | (with_reducible refine Below.drew ?_) | (with_reducible refine below_new ?_ (Nat.le_refl _) _) | (with_reducible refine Below.setCell ?_ ?_ _) | (with_reducible refine below_go ?_ (by assumption) (Nat.le_refl _)) | (simp; done) | (simp; omega) | omega)))) (fun hHeld => ?_)
  (refine takeH (i := 0) (v := ?_) rfl (by kernel_rfl) (by kernel_rfl) (by kernel_rfl) (fun _ _ _ h => h) (Or.inl ⟨by first | kernel_rfl | rfl, ?_⟩) (by assumption) ?_; rotate_left; (focus (intro w' hSw; (try dsimp only at hSw); go_simp; try (with_reducible rfl))); (try simp only [Act.put, List.setIfInBounds_toArray, List.set_cons_zero, List.set_cons_succ]))
  (refine takeH (i := 2) (v := ?_) rfl (by kernel_rfl) (by kernel_rfl) (by kernel_rfl) (fun _ _ _ h => h) (Or.inl ⟨by first | kernel_rfl | rfl, ?_⟩) (by assumption) ?_; rotate_left; (focus (intro w' hSw; (try dsimp only at hSw); go_simp; try (with_reducible rfl))); (try simp only [Act.put, List.setIfInBounds_toArray, List.set_cons_zero, List.set_cons_succ]))
  refine oneH (i := 1) (by kernel_rfl) rfl (fun K hK => ?_)
  go_simp
  go_at_call 14
  refine (fprog_any p _ _ _ _ _ (HRV.out.below (HW7.out.trans (by (repeat' (first | (with_reducible exact Below.refl _ _) | (with_reducible assumption) | (with_reducible refine below_drewN ?_ _) | (with_reducible refine Below.drew ?_) | (with_reducible refine below_new ?_ (Nat.le_refl _) _) | (with_reducible refine Below.setCell ?_ ?_ _) | (with_reducible refine below_go ?_ (by assumption) (Nat.le_refl _)) | (simp; done) | (simp; omega) | omega))))) (HRB.out.below (HW7.out.trans (by (repeat' (first | (with_reducible exact Below.refl _ _) | (with_reducible assumption) | (with_reducible refine below_drewN ?_ _) | (with_reducible refine Below.drew ?_) | (with_reducible refine below_new ?_ (Nat.le_refl _) _) | (with_reducible refine Below.setCell ?_ ?_ _) | (with_reducible refine below_go ?_ (by assumption) (Nat.le_refl _)) | (simp; done) | (simp; omega) | omega)))))).mono ?_
  rintro e w8 ⟨⟨Av8, kv8, Ab8, kb8, rfl, hv8, hbd8⟩, hb8⟩
  have hb8' : Below W7.heap.size W7 w8 := by (repeat' (first | (with_reducible exact Below.refl _ _) | (with_reducible assumption) | (with_reducible refine below_drewN ?_ _) | (with_reducible refine Below.drew ?_) | (with_reducible refine below_new ?_ (Nat.le_refl _) _) | (with_reducible refine Below.setCell ?_ ?_ _) | (with_reducible refine below_go ?_ (by assumption) (Nat.le_refl _)) | (simp; done) | (simp; omega) | omega))
  have HV8 := Lib.hid hv8
  have HBD8 := Lib.hid hbd8
  have HB8 := Lib.hid hb8'
  clear hv8 hbd8 hb8 hb8'
  go_wp2_with fail
  refine hK.out _ _ (HCG.out _ HB8.out) (fun hHeld => ?_)
  clear hK K
  (try simp only [Act.put, List.setIfInBounds_toArray, List.set_cons_zero, List.set_cons_succ])
  refine oneH (i := 3) (by kernel_rfl) rfl (fun K hK => ?_)
  go_simp
  go_at_call 13
  have hys := HYS.out
  subst hys
  refine (same18_any (foldP p) _ Av8 Ab8 Av A6 kv8 kv kb8 c6 HV8.out HBD8.out (HRV.out.below (HW7.out.trans (HB8.out.mono HW7.out.size))) (HR7.out.below HB8.out)).mono ?_
  rintro e w9 ⟨rfl, hb9⟩
  have hb9' := HB8.out.trans (hb9.mono HB8.out.size)
  have HB9 := Lib.hid hb9'
  clear hb9 hb9'
  go_wp2_with fail
  refine hK.out _ _ (HCG.out _ HB9.out) (fun hHeld => ?_)
  clear hK K
  (try simp only [Act.put, List.setIfInBounds_toArray, List.set_cons_zero, List.set_cons_succ])
  (refine takeH (i := 4) (v := ?_) rfl (by kernel_rfl) (by kernel_rfl) (by kernel_rfl) (fun _ _ _ h => h) (Or.inl ⟨by first | kernel_rfl | rfl, ?_⟩) (by assumption) ?_; rotate_left; (focus (intro w' hSw; (try dsimp only at hSw); go_simp; try (with_reducible rfl))); (try simp only [Act.put, List.setIfInBounds_toArray, List.set_cons_zero, List.set_cons_succ]))
  refine wpAnyH_done (by kernel_rfl) ?_ _
  (try simp only [Act.put, List.setIfInBounds_toArray, List.set_cons_zero, List.set_cons_succ])
  obtain ⟨c0, c1, c2, hl9, hw9⟩ := HCW.out w9 (HB7.out.trans (HB9.out.mono HB7.out.size))
  have HW9 := Lib.hid hw9
  clear hHeld hw9
  go_wp2_with fail
  refine (HSH.out _ HW9.out).mono ?_
  rintro e w10 ⟨rfl, hb10⟩
  have HW10 := Lib.hid (HW9.out.trans (hb10.mono HW9.out.size))
  clear hb10 c0 c1 c2
  go_wp2
  go_ret
  exact ⟨by simp, HW10.out⟩

end Go.Proofs.Ytcamegfnhbbaeaa
