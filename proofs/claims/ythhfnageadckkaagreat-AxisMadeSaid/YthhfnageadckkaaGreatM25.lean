/- Merged: Layer 15: a cycle of an axis: what holds at its start. Layer 15: the cause of an error. -/
import Derived.Test.YthhfnageadckkaaGreatAxS4
import Derived.Test.YthhfnageadckkaaGreatM21
import Derived.Laws.CopyOwn
set_option linter.unusedVariables false
set_option linter.unusedSimpArgs false
namespace Go.Proofs.YthhfnageadckkaaGreat
open Go.RowKit

theorem rightX_axI {a : AX} (h : rightX a = true) (hc : ∀ c ∈ a.ns ++ a.ws, CmdW c) (h1 : I64 a.sta) (h2 : I64 a.mas) (i : INS) : AxI (startX a i).a := by
 unfold rightX madeB at h
 simp only [Bool.and_eq_true, decide_eq_true_eq] at h
 obtain ⟨⟨⟨⟨⟨⟨⟨⟨⟨⟨⟨⟨⟨m1, m2⟩, m3⟩, m4⟩, m5⟩, m6⟩, m7⟩, m8⟩, m9⟩, m10⟩, m11⟩, m12⟩, m13⟩, m14⟩ := h
 exact ⟨m2, m1, m3, m4, m7, m6, m8, m10, hc, by show 0 ≤ max 0 (min i.ov 100) ∧ max 0 (min i.ov 100) ≤ 100; omega, m13, h1, h2⟩

end Go.Proofs.YthhfnageadckkaaGreat

namespace Go.Proofs.YthhfnageadckkaaGreat
open Go.RowKit
attribute [local go_sem] ite_max ite_min vite_max vite_min ext_cell ext_frozen

theorem causeX_b (a : AX) (i : INS) : causeX a i = if a.st = 0 ∧ (i.cau != 6) = true then 0 else if (i.cau != 0) = true then i.cau else if (a.st == 7) = true then 0 else if i.pw = true ∧ (!i.op) = true then 2 else if ¬ a.st = 2 ∧ ((i.plus = true ∧ 0 < a.g.v) ∨ (i.minus = true ∧ a.g.v < 0)) then 4 else 0 := by
 unfold causeX
 simp only [bne_iff_ne, beq_iff_eq, ne_eq, Bool.and_eq_true, Bool.or_eq_true, decide_eq_true_eq]

set_option maxRecDepth 100000 in
set_option maxHeartbeats 4000000 in
theorem acause_at (s : WS) (K : Nat) (rv : Value) (W : World) (h : WK W K s rv) :
  Calls Tryz.prog 58 #[.pointer (some ⟨K, 0, none⟩)] W fun x w' => x = .returned (.int .i64 (causeX s.a s.i)) ∧ Below W.heap.size W w' := by
 obtain ⟨sv, nv, wv, cv, hp⟩ := h
 have lK := hp.lt
 obtain ⟨N, hN⟩ : ∃ N, N = W.heap.size := ⟨_, rfl⟩
 obtain ⟨L, hL⟩ := axL_some s.a sv nv wv
 obtain ⟨M, hM⟩ := inL_some s.i cv
 have HAL := Lib.hid hL
 have HIL := Lib.hid hM
 have HRG : Hid (∀ W', Below N W W' → W'.rangeAt K 0 L) := Lib.hid (fun W' hb => (hp.below (by rw [← hN]; exact hb)).range hL)
 have HRI : Hid (∀ W', Below N W W' → W'.rangeAt K 26 M) := Lib.hid (fun W' hb => (hp.below (by rw [← hN]; exact hb)).rangeI hM)
 have HO1 := Lib.hid (hp.one hL)
 have HO2 := Lib.hid (hM.one hp.o4)
 have HL26 : Hid (L.toArray.size = 26) := Lib.hid (by rw [hL.eq]; rfl)
 have HM12 : Hid (M.toArray.size = 12) := Lib.hid (by rw [hM.eq]; rfl)
 clear hL hM
 go_enter Tryz.func58, Tryz.ntmps58
 go_wp2_with fail
 refine wp_region_held_drew (S := fun w' => Below N W w') (by kernel_rfl) ?_ (fun hHeld => ?_)
 ·exact (Below.refl _ _).drew
 refine tT 0 ?_ rfl ?_ ?_; rotate_left; (focus intros; go_simp; try rfl)
 refine tT 1 ?_ rfl ?_ ?_; rotate_left; (focus intros; go_simp; try rfl)
 refine tT 2 ?_ rfl ?_ ?_; rotate_left; (focus intros; go_simp; try rfl); (try simp only [ly])
 (refine takeH (i := 3) (v := .agg L.toArray) rfl (by kernel_rfl) (by kernel_rfl) (by kernel_rfl) (fun _ _ _ h => h) (yieldsIf_load_mid (by kernel_rfl) 35 _ rfl K 0 rfl L _ (fun _ hb => HRG.out _ hb) Tryz.underlying35 rfl HAL.out.size) (by assumption) ?_)
 refine tT 4 ?_ rfl ?_ ?_; rotate_left; (focus intros; go_simp; try rfl)
 refine tT 5 ?_ rfl ?_ ?_; rotate_left; (focus intros; go_simp; try rfl); (try simp only [ly])
 refine tT 6 ?_ rfl ?_ ?_; rotate_left; (focus intros; go_simp; try rfl)
 (refine takeH (i := 7) (v := .agg M.toArray) rfl (by kernel_rfl) (by kernel_rfl) (by kernel_rfl) (fun _ _ _ h => h) (yieldsIf_load_mid (by kernel_rfl) 44 _ rfl K 26 rfl M _ (fun _ hb => HRI.out _ hb) Tryz.underlying44 rfl HIL.out.size) (by assumption) ?_; (try simp only [ly]))
 refine twoX (i := 8) (j := 9) (by kernel_rfl) rfl rfl (fun Kc hK => ?o1) (fun Kc hK => ?o2)
 case' o1 =>
  go_simp
  have hb1 : Below N W (W.drew.alloc (.cells #[.int .i64 0, .int .i64 0, .int .i64 0, .int .i64 0, .int .i64 0, .int .i64 0, .int .i64 0, .int .i64 0, .int .i64 0, .int .i64 0, .int .i64 0, .int .i64 0, .slice none 0 0, .int .i64 0, .slice none 0 0, .slice none 0 0, .bool false, .int .i64 0, .int .i64 0, .int .i64 0, .bool false, .int .i64 0, .int .i64 0, .int .i64 0, .int .i64 0, .bool false] 35)) := below_new hHeld (by rw [hN]; exact Nat.le_refl _) _
  refine hK.out _ (W.drew.alloc (.cells #[.int .i64 0, .int .i64 0, .int .i64 0, .int .i64 0, .int .i64 0, .int .i64 0, .int .i64 0, .int .i64 0, .int .i64 0, .int .i64 0, .int .i64 0, .int .i64 0, .slice none 0 0, .int .i64 0, .slice none 0 0, .slice none 0 0, .bool false, .int .i64 0, .int .i64 0, .int .i64 0, .bool false, .int .i64 0, .int .i64 0, .int .i64 0, .int .i64 0, .bool false] 35)) hb1 (fun hHeld => ?_)
  clear hK Kc
  (try simp only [ly])
  refine oneH (i := 9) (by kernel_rfl) rfl (fun Kc hK => ?_)
  go_simp
  have hb2 : Below N W ((W.drew.alloc (.cells #[.int .i64 0, .int .i64 0, .int .i64 0, .int .i64 0, .int .i64 0, .int .i64 0, .int .i64 0, .int .i64 0, .int .i64 0, .int .i64 0, .int .i64 0, .int .i64 0, .slice none 0 0, .int .i64 0, .slice none 0 0, .slice none 0 0, .bool false, .int .i64 0, .int .i64 0, .int .i64 0, .bool false, .int .i64 0, .int .i64 0, .int .i64 0, .int .i64 0, .bool false] 35)).alloc (.cells #[.bool false, .bool false, .int .i64 0, .int .i64 0, .bool false, .bool false, .bool false, .bool false, .bool false, .int .i64 0, .int .i64 0, .slice none 0 0] 44)) := below_new hb1 (by rw [hN]; simp) _
  refine hK.out _ ((W.drew.alloc (.cells #[.int .i64 0, .int .i64 0, .int .i64 0, .int .i64 0, .int .i64 0, .int .i64 0, .int .i64 0, .int .i64 0, .int .i64 0, .int .i64 0, .int .i64 0, .int .i64 0, .slice none 0 0, .int .i64 0, .slice none 0 0, .slice none 0 0, .bool false, .int .i64 0, .int .i64 0, .int .i64 0, .bool false, .int .i64 0, .int .i64 0, .int .i64 0, .int .i64 0, .bool false] 35)).alloc (.cells #[.bool false, .bool false, .int .i64 0, .int .i64 0, .bool false, .bool false, .bool false, .bool false, .bool false, .int .i64 0, .int .i64 0, .slice none 0 0] 44)) hb2 (fun hHeld => ?_)
  clear hK Kc
  (try simp only [ly])
  obtain ⟨p3, hp3⟩ : ∃ x, x = W.heap.size := ⟨_, rfl⟩
  obtain ⟨p4, hp4⟩ : ∃ x, x = (W.heap.size + 1) := ⟨_, rfl⟩
  obtain ⟨WA, hWA⟩ : ∃ x, x = ((W.drew.alloc (.cells #[.int .i64 0, .int .i64 0, .int .i64 0, .int .i64 0, .int .i64 0, .int .i64 0, .int .i64 0, .int .i64 0, .int .i64 0, .int .i64 0, .int .i64 0, .int .i64 0, .slice none 0 0, .int .i64 0, .slice none 0 0, .slice none 0 0, .bool false, .int .i64 0, .int .i64 0, .int .i64 0, .bool false, .int .i64 0, .int .i64 0, .int .i64 0, .int .i64 0, .bool false] 35)).alloc (.cells #[.bool false, .bool false, .int .i64 0, .int .i64 0, .bool false, .bool false, .bool false, .bool false, .bool false, .int .i64 0, .int .i64 0, .slice none 0 0] 44)) := ⟨_, rfl⟩
  have g3 : WA.heap[p3]? = some (.cells #[.int .i64 0, .int .i64 0, .int .i64 0, .int .i64 0, .int .i64 0, .int .i64 0, .int .i64 0, .int .i64 0, .int .i64 0, .int .i64 0, .int .i64 0, .int .i64 0, .slice none 0 0, .int .i64 0, .slice none 0 0, .slice none 0 0, .bool false, .int .i64 0, .int .i64 0, .int .i64 0, .bool false, .int .i64 0, .int .i64 0, .int .i64 0, .int .i64 0, .bool false] 35) := by rw [hWA, hp3]; exact heap_alloc2_old W.drew _ _
  have g4 : WA.heap[p4]? = some (.cells #[.bool false, .bool false, .int .i64 0, .int .i64 0, .bool false, .bool false, .bool false, .bool false, .bool false, .int .i64 0, .int .i64 0, .slice none 0 0] 44) := by rw [hWA, hp4]; exact heap_alloc2_new W.drew _ _
  have n34 : p3 ≠ p4 ∧ N ≤ p3 ∧ N ≤ p4 := by omega
  rw [← hWA] at hHeld hb2 ⊢
  (try rw [← hp4])
  (try rw [← hp3])
  (try rw [← hp4])
  clear hWA hp3 hp4 hb1
 case' o2 =>
  go_simp
  have hb1 : Below N W (W.drew.alloc (.cells #[.bool false, .bool false, .int .i64 0, .int .i64 0, .bool false, .bool false, .bool false, .bool false, .bool false, .int .i64 0, .int .i64 0, .slice none 0 0] 44)) := below_new hHeld (by rw [hN]; exact Nat.le_refl _) _
  refine hK.out _ (W.drew.alloc (.cells #[.bool false, .bool false, .int .i64 0, .int .i64 0, .bool false, .bool false, .bool false, .bool false, .bool false, .int .i64 0, .int .i64 0, .slice none 0 0] 44)) hb1 (fun hHeld => ?_)
  clear hK Kc
  (try simp only [ly])
  refine oneH (i := 8) (by kernel_rfl) rfl (fun Kc hK => ?_)
  go_simp
  have hb2 : Below N W ((W.drew.alloc (.cells #[.bool false, .bool false, .int .i64 0, .int .i64 0, .bool false, .bool false, .bool false, .bool false, .bool false, .int .i64 0, .int .i64 0, .slice none 0 0] 44)).alloc (.cells #[.int .i64 0, .int .i64 0, .int .i64 0, .int .i64 0, .int .i64 0, .int .i64 0, .int .i64 0, .int .i64 0, .int .i64 0, .int .i64 0, .int .i64 0, .int .i64 0, .slice none 0 0, .int .i64 0, .slice none 0 0, .slice none 0 0, .bool false, .int .i64 0, .int .i64 0, .int .i64 0, .bool false, .int .i64 0, .int .i64 0, .int .i64 0, .int .i64 0, .bool false] 35)) := below_new hb1 (by rw [hN]; simp) _
  refine hK.out _ ((W.drew.alloc (.cells #[.bool false, .bool false, .int .i64 0, .int .i64 0, .bool false, .bool false, .bool false, .bool false, .bool false, .int .i64 0, .int .i64 0, .slice none 0 0] 44)).alloc (.cells #[.int .i64 0, .int .i64 0, .int .i64 0, .int .i64 0, .int .i64 0, .int .i64 0, .int .i64 0, .int .i64 0, .int .i64 0, .int .i64 0, .int .i64 0, .int .i64 0, .slice none 0 0, .int .i64 0, .slice none 0 0, .slice none 0 0, .bool false, .int .i64 0, .int .i64 0, .int .i64 0, .bool false, .int .i64 0, .int .i64 0, .int .i64 0, .int .i64 0, .bool false] 35)) hb2 (fun hHeld => ?_)
  clear hK Kc
  (try simp only [ly])
  obtain ⟨p3, hp3⟩ : ∃ x, x = (W.heap.size + 1) := ⟨_, rfl⟩
  obtain ⟨p4, hp4⟩ : ∃ x, x = W.heap.size := ⟨_, rfl⟩
  obtain ⟨WA, hWA⟩ : ∃ x, x = ((W.drew.alloc (.cells #[.bool false, .bool false, .int .i64 0, .int .i64 0, .bool false, .bool false, .bool false, .bool false, .bool false, .int .i64 0, .int .i64 0, .slice none 0 0] 44)).alloc (.cells #[.int .i64 0, .int .i64 0, .int .i64 0, .int .i64 0, .int .i64 0, .int .i64 0, .int .i64 0, .int .i64 0, .int .i64 0, .int .i64 0, .int .i64 0, .int .i64 0, .slice none 0 0, .int .i64 0, .slice none 0 0, .slice none 0 0, .bool false, .int .i64 0, .int .i64 0, .int .i64 0, .bool false, .int .i64 0, .int .i64 0, .int .i64 0, .int .i64 0, .bool false] 35)) := ⟨_, rfl⟩
  have g3 : WA.heap[p3]? = some (.cells #[.int .i64 0, .int .i64 0, .int .i64 0, .int .i64 0, .int .i64 0, .int .i64 0, .int .i64 0, .int .i64 0, .int .i64 0, .int .i64 0, .int .i64 0, .int .i64 0, .slice none 0 0, .int .i64 0, .slice none 0 0, .slice none 0 0, .bool false, .int .i64 0, .int .i64 0, .int .i64 0, .bool false, .int .i64 0, .int .i64 0, .int .i64 0, .int .i64 0, .bool false] 35) := by rw [hWA, hp3]; exact heap_alloc2_new W.drew _ _
  have g4 : WA.heap[p4]? = some (.cells #[.bool false, .bool false, .int .i64 0, .int .i64 0, .bool false, .bool false, .bool false, .bool false, .bool false, .int .i64 0, .int .i64 0, .slice none 0 0] 44) := by rw [hWA, hp4]; exact heap_alloc2_old W.drew _ _
  have n34 : p3 ≠ p4 ∧ N ≤ p3 ∧ N ≤ p4 := by omega
  rw [← hWA] at hHeld hb2 ⊢
  (try rw [← hp3])
  (try rw [← hp4])
  clear hWA hp3 hp4 hb1
 all_goals
  have hb5 : Below N W (WA.setRow p3 L.toArray) := below_setRow hb2 n34.2.1 _
  have g4' : (WA.setRow p3 L.toArray).heap[p4]? = some (.cells #[.bool false, .bool false, .int .i64 0, .int .i64 0, .bool false, .bool false, .bool false, .bool false, .bool false, .int .i64 0, .int .i64 0, .slice none 0 0] 44) := (setRow_other _ _ _ _ (Ne.symm n34.1)).trans g4
  have hb6 : Below N W ((WA.setRow p3 L.toArray).setRow p4 M.toArray) := below_setRow hb5 n34.2.2 _
  refine oneRow (i := 10) (by kernel_rfl) rfl (by kernel_rfl) 35 _ _ rfl p3 L.toArray rfl rfl _ _ g3 (by rw [List.size_toArray]; exact HAL.out.size) (by rw [HL26.out]; rfl) HO1.out hb5 ?_
  (try simp only [ly])
  refine oneRow (i := 11) (by kernel_rfl) rfl (by kernel_rfl) 44 _ _ rfl p4 M.toArray rfl rfl _ _ g4' (by rw [List.size_toArray]; exact HIL.out.size) (by rw [HM12.out]; rfl) HO2.out hb6 ?_
  (try simp only [ly])
  refine wpAnyH_done (by kernel_rfl) ?_ _
  (try simp only [ly])
  obtain ⟨WB, hWB⟩ : ∃ x, x = ((WA.setRow p3 L.toArray).setRow p4 M.toArray) := ⟨_, rfl⟩
  have k3 : WB.heap[p3]? = some (.cells L.toArray 35) := by rw [hWB]; exact (setRow_other _ _ _ _ n34.1).trans (setRow_heap _ _ _ _ _ _ g3)
  have k4 : WB.heap[p4]? = some (.cells M.toArray 44) := by rw [hWB]; exact setRow_heap _ _ _ _ _ _ g4'
  rw [← hWB] at hb6 ⊢
  have HB := Lib.hid hb6
  clear hWB hb2 hb5 hb6 g3 g4 g4' n34 hHeld
  have l3 : p3 < WB.heap.size := (Array.getElem?_eq_some_iff.1 k3).1
  have l4 : p4 < WB.heap.size := (Array.getElem?_eq_some_iff.1 k4).1
  have a0 : WB.cell? ⟨p3, 0, none⟩ = some (.int .i64 s.a.st) := heap_cell 0 _ k3 (by rw [HAL.out.eq]; rfl)
  have a11 : WB.cell? ⟨p3, 11, none⟩ = some (.int .i64 s.a.g.v) := heap_cell 11 _ k3 (by rw [HAL.out.eq]; rfl)
  have i0 : WB.cell? ⟨p4, 0, none⟩ = some (.bool s.i.pw) := heap_cell 0 _ k4 (by rw [HIL.out.eq]; rfl)
  have i1 : WB.cell? ⟨p4, 1, none⟩ = some (.bool s.i.op) := heap_cell 1 _ k4 (by rw [HIL.out.eq]; rfl)
  have i3 : WB.cell? ⟨p4, 3, none⟩ = some (.int .i64 s.i.cau) := heap_cell 3 _ k4 (by rw [HIL.out.eq]; rfl)
  have i4 : WB.cell? ⟨p4, 4, none⟩ = some (.bool s.i.plus) := heap_cell 4 _ k4 (by rw [HIL.out.eq]; rfl)
  have i5 : WB.cell? ⟨p4, 5, none⟩ = some (.bool s.i.minus) := heap_cell 5 _ k4 (by rw [HIL.out.eq]; rfl)
  clear k3 k4 lK
  go_wp2
  all_goals go_ret
  all_goals refine ⟨congrArg (fun z => Ending.returned (.int .i64 z)) ?_, by rw [← hN]; exact HB.out⟩
  all_goals clear HAL HIL HRG HRI HO1 HO2 HL26 HM12 HB a0 a11 i0 i1 i3 i4 i5 l3 l4 hp
  all_goals rw [causeX_b]
  all_goals (try simp [*])
  all_goals (rename_i hz; rcases hz with hz | hz; (exfalso; (simp at hz); contradiction); omega)

end Go.Proofs.YthhfnageadckkaaGreat
