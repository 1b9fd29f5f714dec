/- Layer 21: what was folded, folded again, is the same: the walk. -/
import Derived.Test.YtcamegfnhbbaeaaTreeQ
import Derived.Test.YtcamegfnhbbaeaaTreeN
import Derived.Test.YtcamegfnhbbaeaaFoldH
namespace Go.Proofs.Ytcamegfnhbbaeaa
open Go.RowKit
set_option linter.unusedVariables false
set_option linter.unusedSimpArgs false
attribute [local go_sem] ite_max ite_min vite_max vite_min ext_cell ext_frozen

theorem foldP_again (p : Prg) : foldP (foldP p) = foldP p := by
  unfold foldP
  simp only [foldSs_again]

set_option maxRecDepth 100000 in
set_option maxHeartbeats 8000000 in
theorem walk_FoldAgain (p : Prg) (cs : List Value) (w : World) (h : PrgAt w p cs) (hsm : ∀ s ∈ p.body, SmS s) : Calls Try.prog 5 #[.agg cs.toArray] w fun e w' => e = .returned (.bool true) ∧ Below w.heap.size w w' := by
  obtain ⟨Av, kv, Ab, kb, rfl, hv, hbd⟩ := h
  have HP : Hid (PrgAt w p [.string p.name, .slice Av p.vars.length kv, .slice Ab p.body.length kb]) := Lib.hid ⟨Av, kv, Ab, kb, rfl, hv, hbd⟩
  have HRV := Lib.hid hv
  have HRB := Lib.hid hbd
  have HSM := Lib.hid hsm
  clear hv hbd hsm
  go_enter Try.func5, Try.ntmps5
  go_upto_region 1 with (fail)
  refine wp_name fun W0 hW0 => ?_
  obtain ⟨B, hB⟩ : ∃ B, B = w.heap.size := ⟨_, rfl⟩
  have hh : W0.heap[B]? = some (.cells #[.string p.name, .slice Av p.vars.length kv, .slice Ab p.body.length kb] 30) := by rw [hW0.out, hB]; exact heap_alloc_new _ _
  have hbel : Below w.heap.size w W0 := by rw [hW0.out]; (repeat' (first | (with_reducible exact Below.refl _ _) | (with_reducible assumption) | (with_reducible refine below_drewN ?_ _) | (with_reducible refine Below.drew ?_) | (with_reducible refine below_new ?_ (Nat.le_refl _) _) | (with_reducible refine Below.setCell ?_ ?_ _) | (with_reducible refine below_go ?_ (by assumption) (Nat.le_refl _)) | (simp; done) | (simp; omega) | omega))
  have hCW : ∀ W, Below W0.heap.size W0 W → W.cell? ⟨B, 0, none⟩ = some (.string p.name) ∧ W.cell? ⟨B, 1, none⟩ = some (.slice Av p.vars.length kv) ∧ W.cell? ⟨B, 2, none⟩ = some (.slice Ab p.body.length kb) ∧ B < W.heap.size ∧ Below w.heap.size w W := fun W hb => by
    have hl : B < W0.heap.size := (Array.getElem?_eq_some_iff.1 hh).1
    exact ⟨(hb.cell (p := ⟨B, 0, none⟩) hl).trans (heap_cell 0 _ hh rfl), (hb.cell (p := ⟨B, 1, none⟩) hl).trans (heap_cell 1 _ hh rfl), (hb.cell (p := ⟨B, 2, none⟩) hl).trans (heap_cell 2 _ hh rfl), Nat.lt_of_lt_of_le hl hb.size, hbel.trans (hb.mono hbel.size)⟩
  have HCW := Lib.hid hCW
  rw [← hB]
  clear hh hbel hW0 hB hCW
  go_wp2_with fail
  refine (awake21 _).mono ?_
  rintro e w1 ⟨rfl, hb1⟩
  obtain ⟨c0, c1, c2, hl1, hw1⟩ := HCW.out w1 hb1
  have HB1 := Lib.hid hb1
  have HW1 := Lib.hid hw1
  clear hb1 hw1
  go_wp2_with fail
  refine (short_any p _ _ (HP.out.keep HW1.out)).mono ?_
  rintro e w2 ⟨⟨b, rfl⟩, hb2⟩
  have hb2' := HB1.out.trans (hb2.mono HB1.out.size)
  clear c0 c1 c2 hl1
  obtain ⟨c0, c1, c2, hl2, hw2⟩ := HCW.out w2 hb2'
  have HB2 := Lib.hid hb2'
  have HW2 := Lib.hid hw2
  clear hb2 hb2' hw2 HB1 HW1
  cases b
  · go_wp2
    go_ret
    exact ⟨rfl, HW2.out⟩
  go_wp2_with fail
  refine (fits_any p _ _ (HP.out.keep HW2.out) HSM.out).mono ?_
  rintro e w3 ⟨⟨b, rfl, hfit⟩, hb3⟩
  have hb3' := HB2.out.trans (hb3.mono HB2.out.size)
  clear c0 c1 c2 hl2 hfit
  obtain ⟨c0, c1, c2, hl3, hw3⟩ := HCW.out w3 hb3'
  have HB3 := Lib.hid hb3'
  have HW3 := Lib.hid hw3
  clear hb3 hb3' hw3 HB2 HW2
  cases b
  · go_wp2
    go_ret
    exact ⟨rfl, HW3.out⟩
  go_wp2_with fail
  refine (fprog_any p _ _ _ _ _ (HRV.out.below HW3.out) (HRB.out.below HW3.out)).mono ?_
  rintro e w4 ⟨⟨Av4, kv4, Ab4, kb4, rfl, hv4, hbd4⟩, hb4⟩
  have hb4' := HW3.out.trans (hb4.mono HW3.out.size)
  have HV4 := Lib.hid hv4
  have HBD4 := Lib.hid hbd4
  have HW4 := Lib.hid hb4'
  clear c0 c1 c2 hl3 hb4 hb4' hv4 hbd4 HB3 HW3
  go_upto_region 6 with (refine wpList_store_new rfl 30 _ _ rfl w4 _ (prA (foldP p).name Av4 (foldP p).vars.length kv4 Ab4 (foldP p).body.length kb4) rfl rfl rfl prog_size rfl (prA_one _ _ _ _ _ _ _) ?_)
  refine wp_name fun W5 hW5 => ?_
  obtain ⟨G, hG⟩ : ∃ G, G = w4.heap.size := ⟨_, rfl⟩
  have hh : W5.heap[G]? = some (.cells (prA (foldP p).name Av4 (foldP p).vars.length kv4 Ab4 (foldP p).body.length kb4) 30) := by rw [hW5.out, hG]; exact heap_alloc_new _ _
  have hbel : Below w4.heap.size w4 W5 := by rw [hW5.out]; (repeat' (first | (with_reducible exact Below.refl _ _) | (with_reducible assumption) | (with_reducible refine below_drewN ?_ _) | (with_reducible refine Below.drew ?_) | (with_reducible refine below_new ?_ (Nat.le_refl _) _) | (with_reducible refine Below.setCell ?_ ?_ _) | (with_reducible refine below_go ?_ (by assumption) (Nat.le_refl _)) | (simp; done) | (simp; omega) | omega))
  have g0 : W5.cell? ⟨G, 0, none⟩ = some (.string (foldP p).name) := heap_cell 0 _ hh rfl
  have g1 : W5.cell? ⟨G, 1, none⟩ = some (.slice Av4 (foldP p).vars.length kv4) := heap_cell 1 _ hh rfl
  have g2 : W5.cell? ⟨G, 2, none⟩ = some (.slice Ab4 (foldP p).body.length kb4) := heap_cell 2 _ hh rfl
  have hGl : G < W5.heap.size := (Array.getElem?_eq_some_iff.1 hh).1
  have HV5 := Lib.hid (HV4.out.below hbel)
  have HBD5 := Lib.hid (HBD4.out.below hbel)
  have hw5 := HW4.out.trans (hbel.mono HW4.out.size)
  have HW5 := Lib.hid hw5
  rw [← hG]
  simp only [Act.put]
  clear hh hbel hW5 hG hw5 HV4 HBD4 HW4
  obtain ⟨P, hP⟩ : ∃ P, foldP p = P := ⟨_, rfl⟩
  rw [hP] at g0 g1 g2 HV5 HBD5
  have HPP : Hid (foldP P = P) := Lib.hid (by rw [← hP]; exact foldP_again p)
  clear hP
  refine wp_region_held_drew (S := fun w' => w'.cell? ⟨G, 0, none⟩ = some (.string P.name) ∧ w'.cell? ⟨G, 1, none⟩ = some (.slice Av4 P.vars.length kv4) ∧ w'.cell? ⟨G, 2, none⟩ = some (.slice Ab4 P.body.length kb4)) (by kernel_rfl) ⟨?_, ?_, ?_⟩ (fun hHeld => ?_)
  · assumption
  · assumption
  · assumption
  (refine takeH (i := 0) (v := ?_) rfl (by kernel_rfl) (by kernel_rfl) (by kernel_rfl) (fun _ _ _ h => h) (Or.inl ⟨by first | kernel_rfl | rfl, ?_⟩) (by assumption) ?_; rotate_left; focus (intro w' hSw; (try dsimp only at hSw); go_simp; try (with_reducible rfl)); (try simp only [Act.put, List.setIfInBounds_toArray, List.set_cons_zero, List.set_cons_succ]))
  (refine takeH (i := 2) (v := ?_) rfl (by kernel_rfl) (by kernel_rfl) (by kernel_rfl) (fun _ _ _ h => h) (Or.inl ⟨by first | kernel_rfl | rfl, ?_⟩) (by assumption) ?_; rotate_left; focus (intro w' hSw; (try dsimp only at hSw); go_simp; try (with_reducible rfl)); (try simp only [Act.put, List.setIfInBounds_toArray, List.set_cons_zero, List.set_cons_succ]))
  refine oneH (i := 1) (by kernel_rfl) rfl (fun K hK => ?_)
  go_simp
  go_at_call 14
  refine (fprog_any P _ _ _ _ _ (HV5.out.below (by (repeat' (first | (with_reducible exact Below.refl _ _) | (with_reducible assumption) | (with_reducible refine below_drewN ?_ _) | (with_reducible refine Below.drew ?_) | (with_reducible refine below_new ?_ (Nat.le_refl _) _) | (with_reducible refine Below.setCell ?_ ?_ _) | (with_reducible refine below_go ?_ (by assumption) (Nat.le_refl _)) | (simp; done) | (simp; omega) | omega)))) (HBD5.out.below (by (repeat' (first | (with_reducible exact Below.refl _ _) | (with_reducible assumption) | (with_reducible refine below_drewN ?_ _) | (with_reducible refine Below.drew ?_) | (with_reducible refine below_new ?_ (Nat.le_refl _) _) | (with_reducible refine Below.setCell ?_ ?_ _) | (with_reducible refine below_go ?_ (by assumption) (Nat.le_refl _)) | (simp; done) | (simp; omega) | omega))))).mono ?_
  rw [HPP.out]
  rintro e w6 ⟨⟨Av6, kv6, Ab6, kb6, rfl, hv6, hbd6⟩, hb6⟩
  have hb6' : Below W5.heap.size W5 w6 := by (repeat' (first | (with_reducible exact Below.refl _ _) | (with_reducible assumption) | (with_reducible refine below_drewN ?_ _) | (with_reducible refine Below.drew ?_) | (with_reducible refine below_new ?_ (Nat.le_refl _) _) | (with_reducible refine Below.setCell ?_ ?_ _) | (with_reducible refine below_go ?_ (by assumption) (Nat.le_refl _)) | (simp; done) | (simp; omega) | omega))
  have k0 := (hb6'.cell (p := ⟨G, 0, none⟩) hGl).trans g0
  have k1 := (hb6'.cell (p := ⟨G, 1, none⟩) hGl).trans g1
  have k2 := (hb6'.cell (p := ⟨G, 2, none⟩) hGl).trans g2
  have HV6 := Lib.hid hv6
  have HBD6 := Lib.hid hbd6
  have HB6 := Lib.hid hb6'
  clear hv6 hbd6 hb6 hb6'
  go_wp2_with fail
  refine hK.out _ _ ?_ (fun hHeld => ?_)
  · exact ⟨k0, k1, k2⟩
  clear hK K
  (try simp only [Act.put, List.setIfInBounds_toArray, List.set_cons_zero, List.set_cons_succ])
  refine oneH (i := 3) (by kernel_rfl) rfl (fun K hK => ?_)
  go_simp
  go_at_call 13
  refine (same18_any P _ _ _ _ _ _ _ _ _ (HV6.out) (HBD6.out) (HV5.out.below HB6.out) (HBD5.out.below HB6.out)).mono ?_
  rintro e w7 ⟨rfl, hb7⟩
  have hb7' := HB6.out.trans (hb7.mono HB6.out.size)
  have m0 := (hb7'.cell (p := ⟨G, 0, none⟩) hGl).trans g0
  have m1 := (hb7'.cell (p := ⟨G, 1, none⟩) hGl).trans g1
  have m2 := (hb7'.cell (p := ⟨G, 2, none⟩) hGl).trans g2
  have HB7 := Lib.hid hb7'
  clear hb7 hb7'
  go_wp2_with fail
  refine hK.out _ _ ?_ (fun hHeld => ?_)
  · exact ⟨m0, m1, m2⟩
  clear hK K
  (try simp only [Act.put, List.setIfInBounds_toArray, List.set_cons_zero, List.set_cons_succ])
  (refine takeH (i := 4) (v := ?_) rfl (by kernel_rfl) (by kernel_rfl) (by kernel_rfl) (fun _ _ _ h => h) (Or.inl ⟨by first | kernel_rfl | rfl, ?_⟩) (by assumption) ?_; rotate_left; focus (intro w' hSw; (try dsimp only at hSw); go_simp; try (with_reducible rfl)); (try simp only [Act.put, List.setIfInBounds_toArray, List.set_cons_zero, List.set_cons_succ]))
  refine wpAnyH_done (by kernel_rfl) ?_ _
  (try simp only [Act.put, List.setIfInBounds_toArray, List.set_cons_zero, List.set_cons_succ])
  go_wp2
  go_ret
  exact ⟨rfl, HW5.out.trans (HB7.out.mono HW5.out.size)⟩

end Go.Proofs.Ytcamegfnhbbaeaa
