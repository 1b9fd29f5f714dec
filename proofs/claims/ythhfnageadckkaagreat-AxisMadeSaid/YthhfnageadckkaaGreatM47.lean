/- Merged: Layer 15, the reference: a window full of one place; an axis made. Layer 15, the reference: an axis made. -/
import Derived.Test.YthhfnageadckkaaGreatAxMC
set_option linter.unusedVariables false
set_option linter.unusedSimpArgs false
set_option maxHeartbeats 4000000
namespace Go.Proofs.YthhfnageadckkaaGreat
open Go.RowKit
attribute [local go_sem] ite_max ite_min vite_max vite_min ext_cell ext_frozen

structure FullS (w W : World) (R : Nat) (rv : Value) (k : Nat) (x : Int) : Prop where
 res : W.heap[R]? = some (.cells #[.slice none 0 0] 28)
 blk : W.heap[R + 1]? = some (.cells #[rv] 28)
 own : W.ownsRow (R + 2) 2 1 rv k (intsC (List.replicate k x))
 bel : Below R w W
 siz : R ≤ w.heap.size
theorem FullS.lt {w W : World} {R k : Nat} {rv : Value} {x : Int} (h : FullS w W R rv k x) : R + 1 < W.heap.size := (Array.getElem?_eq_some_iff.1 h.blk).1
theorem intsC_snocR (k : Nat) (x : Int) : intsC (List.replicate k x) ++ [.int .i64 x] = intsC (List.replicate (k + 1) x) := by
 rw [List.replicate_succ']
 simp [intsC]
theorem smooth_size : (Tryz.prog.info? 28).map (·.size) = some 1 := by kernel_rfl
theorem FullS.next {w wr w2 : World} {R k g cap : Nat} {rv : Value} {x : Int} (h : FullS w wr R rv k x) (hgrow : (wr.alloc (.cells #[.int .i64 x] 2)).grownBy w2 rv.ownBlock)
  (hown : w2.ownsRow (R + 2) 2 1 (.slice (some ⟨g, 0, none⟩) (k + 1) cap) (k + 1) (intsC (List.replicate k x) ++ [.int .i64 x])) :
  FullS w (w2.setCell ⟨R + 1, 0, none⟩ (.slice (some ⟨g, 0, none⟩) (k + 1) cap)) R (.slice (some ⟨g, 0, none⟩) (k + 1) cap) (k + 1) x ∧ w2.heap[R + 1]? = some (.cells #[rv] 28) := by
 have hlt := h.lt
 have hbu : Buts (fun b => rv.ownBlock = some b) wr w2 := Buts.of_grown (below_new (Below.refl _ _) (Nat.le_refl _) _) hgrow
 have hne : ∀ b, b < R + 2 → ¬ (rv.ownBlock = some b) := fun b hb e => by
  have := (h.own.lt b e).1
  omega
 have hne2 : g ≠ R + 1 := fun e => by
  have := (hown.lt g rfl).1
  omega
 have hr2 := (hbu.blk R (by omega) (hne R (by omega))).trans h.res
 have hk2 := (hbu.blk (R + 1) hlt (hne (R + 1) (by omega))).trans h.blk
 have hset : Buts (fun b => b = R + 1) w2 (w2.setCell ⟨R + 1, 0, none⟩ (.slice (some ⟨g, 0, none⟩) (k + 1) cap)) := Buts.set (P := fun b => b = R + 1) (Buts.refl _ _) (g := R + 1) rfl _ _
 have hb2 : Below R w w2 := below_grown (below_new h.bel h.siz _) hgrow (h.own.alloc _) (by omega) (by simp; omega)
 have hl2 : R + 1 < w2.heap.size := (Array.getElem?_eq_some_iff.1 hk2).1
 refine ⟨⟨?_, ?_, ?_, ?_, h.siz⟩, hk2⟩
 ·exact (hset.blk R (by omega) (by omega)).trans hr2
 ·rw [heap_setCell_same w2 (R + 1) 0 _ _ _ hk2]
  rfl
 ·rw [← intsC_snocR]
  exact owns_buts hown hset (fun b hb' e => hne2 (by simp [Value.ownBlock] at hb'; omega))
 ·exact Below.setCell hb2 (Nat.le_succ _) _

set_option maxRecDepth 100000 in
theorem rfull_at (n : Nat) (x : Int) (w : World) (hn : n ≤ 16) :
  Calls Tryz.prog 43 #[.int .i64 n, .int .i64 x] w fun e w' => (∃ sv, e = .returned (.agg #[sv]) ∧ SmR w' (List.replicate n x) w.heap.size sv) ∧ Below w.heap.size w w' := by
 obtain ⟨i0, hi0, hz0, hz1, hz2⟩ := info_parts num_info
 have HI := Lib.hid hi0
 have HZ0 := Lib.hid hz0
 have HZ1 := Lib.hid hz1
 have HZ2 := Lib.hid hz2
 clear hi0 hz0 hz1 hz2
 go_enter Tryz.func43, Tryz.ntmps43
 go_upto_region 2 with (fail)
 refine wp_name fun W hW => ?_
 obtain ⟨R, hR⟩ : ∃ R, R = w.heap.size := ⟨_, rfl⟩
 have HF : Hid (FullS w W R (.slice none 0 0) 0 x) := Lib.hid ⟨by rw [hW.out, hR]; exact heap_alloc2_old w _ _, by rw [hW.out, hR]; exact heap_alloc_atX (by simp), World.ownsRow_nil _ _ _ _, by rw [hW.out, hR]; exact belowBy, by omega⟩
 have HRw := Lib.hid hR
 (try rw [← hR])
 clear hW hR
 go_wp2_with fail
 go_loopw [6] (fun u wr => ∃ (k : Nat) (rv : Value), k ≤ n ∧ u = .int .i64 k ∧ Hid (FullS w wr R rv k x)) (fun u _ => n - (intOf u).toNat)
 case atStart => exact ⟨0, _, by omega, rfl, HF⟩
 case round =>
  obtain ⟨k, rv, hk, rfl, HW⟩ := hrel
  by_cases hlt : k < n
  ·have hk0 : (0 : Int) ≤ (k : Int) := by omega
   have hkn : (k : Int) < (n : Int) := by omega
   have c0 : wr.cell? ⟨R + 1, 0, none⟩ = some rv := heap_cell 0 _ HW.out.blk rfl
   go_wp2_with (at_builtin; refine wpList_append_lies _ rfl _ _ 26 rfl (R + 2) 2 i0 (.int .i64 0) 1 8 Tryz.underlying26 HI.out HZ0.out HZ1.out HZ2.out rfl (by decide) _ k _ rfl (HW.out.own.alloc _) ⟨wr.heap.size, 0, none⟩ 1 1 [.int .i64 x] rfl rfl (World.news_of_block (heap_alloc_new _ _)) ?ch5 ?ch1 ?ch2 ?ch3 ?ch4 _ rfl ?_)
   case ch5 => intro u hu; simp only [List.mem_cons, List.not_mem_nil, or_false] at hu; rcases hu with rfl; rfl
   case ch1 => decide
   case ch2 => unfold maxLen; omega
   case ch3 => omega
   case ch4 => have := HW.out.lt; simp; omega
   intro g cap w2 hown hgrow hat hlt2
   have hnx := HW.out.next hgrow hown
   have hk2 := hnx.2
   have HNX := Lib.hid hnx.1
   have fK2 := fun j => frozen_of_row w2 (R + 1) j _ _ hk2
   have lK2 : R + 1 < w2.heap.size := (Array.getElem?_eq_some_iff.1 hk2).1
   have c1 : w2.cell? ⟨R + 1, 0, none⟩ = some rv := heap_cell 0 _ hk2 rfl
   clear hnx hown hgrow hat hlt2 c0 hk2
   go_wp2
   go_roundw
   case rel => exact ⟨k + 1, _, by omega, by go_num, HNX⟩
   case measure => simp [intOf]; omega
  ·obtain rfl : k = n := by omega
   have c0 : wr.cell? ⟨R + 1, 0, none⟩ = some rv := heap_cell 0 _ HW.out.blk rfl
   have hrv : ∃ A c, rv = .slice A k c := by
    obtain ⟨A, c, e, -⟩ := own_form HW.out.own
    exact ⟨A, c, e⟩
   obtain ⟨A, c, rfl⟩ := hrv
   have hsr : SmR wr (List.replicate k x) (R + 2) (.slice A k c) := by
    obtain ⟨A', c', e, h1, h2, h3⟩ := own_form HW.out.own
    unfold maxLen at h2
    injection e with e1 e2 e3
    subst e1 e3
    refine ⟨⟨A, c, by rw [List.length_replicate], by rw [List.length_replicate]; exact h1, by omega, ?_⟩, fun b o n c' _ e => ?_⟩
    ·rw [List.length_replicate]
     exact Lies.own HW.out.own
    ·injection e with e1
     exact h3 b o none e1
   have HSR := Lib.hid hsr
   clear hsr
   have cR : wr.cell? ⟨R, 0, none⟩ = some (.slice none 0 0) := heap_cell 0 _ HW.out.res rfl
   have fR := fun j => frozen_of_row wr R j _ _ HW.out.res
   have lR : R < wr.heap.size := (Array.getElem?_eq_some_iff.1 HW.out.res).1
   have hh : (wr.setCell ⟨R, 0, none⟩ (.slice A k c)).heap[R]? = some (.cells #[.slice A k c] 28) := heap_setCell_same wr R 0 _ _ _ HW.out.res
   have HH := Lib.hid hh
   have HSB : Hid (Buts (fun b => b = R) wr (wr.setCell ⟨R, 0, none⟩ (.slice A k c))) := Lib.hid (Buts.set (P := fun b => b = R) (Buts.refl _ _) (g := R) rfl _ _)
   clear hh
   go_wp2
   refine post_row rfl rfl HH.out Tryz.underlying28 rfl smooth_size rfl ⟨⟨_, rfl, ?_⟩, ?_⟩
   ·refine ⟨HSR.out.1.buts HSB.out (fun b o n c' hn e hb => by have := HSR.out.2 b o n c' hn e; omega), fun b o n c' hn e => by have := HSR.out.2 b o n c' hn e; have := HRw.out; omega⟩
   ·rw [← HRw.out]
    exact Below.setCell HW.out.bel (Nat.le_refl _) _


set_option maxRecDepth 100000 in
theorem rnew_at (l : LimS) (win hat fast creep : Int) (w : World) (hw : 1 ≤ win ∧ win ≤ 16) :
  Calls Tryz.prog 18 #[.agg #[.int .i64 l.v, .int .i64 l.a, .int .i64 l.d, .int .i64 l.lo, .int .i64 l.hi], .int .i64 win, .int .i64 hat, .int .i64 fast, .int .i64 creep] w fun e w' => (∃ sv, e = .returned (.agg (axC (newX l win hat fast creep) sv nilS nilS).toArray) ∧ SmV w' (List.replicate win.toNat 0) sv) ∧ Below w.heap.size w w' := by
 obtain ⟨m, hm⟩ : ∃ m : Nat, win = (m : Int) := ⟨win.toNat, by omega⟩
 subst hm
 obtain ⟨X, hX⟩ : ∃ X : Value → List Value, X = fun sv => axC (newX l m hat fast creep) sv nilS nilS := ⟨_, rfl⟩
 have HX := Lib.hid hX
 have HXC : Hid (∀ sv, X sv = [.int .i64 0, .int .i64 l.v, .int .i64 l.a, .int .i64 l.d, .int .i64 l.lo, .int .i64 l.hi, .int .i64 m, .int .i64 hat, .int .i64 fast, .int .i64 creep, .int .i64 0, .int .i64 0, sv, .int .i64 0, .slice none 0 0, .slice none 0 0, .bool false, .int .i64 0, .int .i64 0, .int .i64 0, .bool false, .int .i64 100, .int .i64 0, .int .i64 0, .int .i64 0, .bool false]) := Lib.hid (fun sv => by rw [hX]; rfl)
 clear hX
 have HM := Lib.hid hw
 show Calls Tryz.prog 18 #[.agg #[.int .i64 l.v, .int .i64 l.a, .int .i64 l.d, .int .i64 l.lo, .int .i64 l.hi], .int .i64 m, .int .i64 hat, .int .i64 fast, .int .i64 creep] w fun e w' => (∃ sv, e = .returned (.agg ((fun sv => axC (newX l m hat fast creep) sv nilS nilS) sv).toArray) ∧ SmV w' (List.replicate (m : Int).toNat 0) sv) ∧ Below w.heap.size w w'
 rw [← HX.out, Int.toNat_natCast]
 clear HX hw
 go_enter Tryz.func18, Tryz.ntmps18
 go_upto_region 1 with (fail)
 refine wp_name fun W hW => ?_
 obtain ⟨B, hB⟩ : ∃ B, B = w.heap.size := ⟨_, rfl⟩
 have HB : Hid (Below B w W) := by rw [hW.out, hB]; exact Lib.hid (by exact belowBy)
 have hlt : B + 1 < W.heap.size := by rw [hW.out, hB]; simp
 obtain ⟨zs, hz1, hz2⟩ : ∃ zs : Array Value, W.heap[B + 1]? = some (.cells zs 35) ∧ zs.size = 26 := by
  rw [hW.out, hB]
  exact ⟨_, heap_alloc_atX (by simp), rfl⟩
 have c0 : W.heap[B]? = some (.cells #[.int .i64 l.v, .int .i64 l.a, .int .i64 l.d, .int .i64 l.lo, .int .i64 l.hi] 23) := by
  rw [hW.out, hB]; exact heap_alloc2_old w _ _
 have HZ1 := Lib.hid hz1
 have HZ2 := Lib.hid hz2
 have HC0 := Lib.hid c0
 (try rw [← hB])
 have HBw := Lib.hid hB
 have HCL : Hid (∀ w', Buts (fun b => b = B + 1) W w' → w'.cell? ⟨B, 0, none⟩ = some (.int .i64 l.v) ∧ w'.cell? ⟨B, 1, none⟩ = some (.int .i64 l.a) ∧ w'.cell? ⟨B, 2, none⟩ = some (.int .i64 l.d) ∧ w'.cell? ⟨B, 3, none⟩ = some (.int .i64 l.lo) ∧ w'.cell? ⟨B, 4, none⟩ = some (.int .i64 l.hi)) := Lib.hid (fun w' hb => by
  have hk := (hb.blk B (by omega) (by omega)).trans c0
  exact ⟨heap_cell 0 _ hk rfl, heap_cell 1 _ hk rfl, heap_cell 2 _ hk rfl, heap_cell 3 _ hk rfl, heap_cell 4 _ hk rfl⟩)
 have HSZ : Hid (∀ sv, (X sv).toArray.size = 26) := Lib.hid (fun sv => by rw [HXC.out]; rfl)
 clear hW hB hz1 hz2 c0
 refine wp_region_held_drew (S := fun w' => Buts (fun b => b = B + 1) W w' ∧ ∃ ys : Array Value, w'.heap[B + 1]? = some (.cells ys 35) ∧ ys.size = 26) (by kernel_rfl) ?_ (fun hHeld => ?_)
 ·exact ⟨(Buts.refl _ _).drew, zs, HZ1.out, HZ2.out⟩
 (refine tT 0 ?_ rfl ?_ ?_; rotate_left; (focus (intro w' hSw; (try dsimp only at hSw); (obtain ⟨g0, g1, g2, g3, g4⟩ := HCL.out _ hSw.1); go_simp; try (with_reducible rfl))))
 refine tT 1 ?_ rfl ?_ ?_; rotate_left; (focus intros; go_simp; try rfl)
 refine tT 2 ?_ rfl ?_ ?_; rotate_left; (focus intros; go_simp; try rfl); (try simp only [ly])
 refine tT 3 ?_ rfl ?_ ?_; rotate_left; (focus intros; go_simp; try rfl)
 refine tT 4 ?_ rfl ?_ ?_; rotate_left; (focus intros; go_simp; try rfl)
 refine tT 5 ?_ rfl ?_ ?_; rotate_left; (focus intros; go_simp; try rfl); (try simp only [ly])
 refine oneH (i := 6) (by kernel_rfl) rfl (fun Kc hK => ?_)
 go_simp
 go_at_call 43; refine (rfull_at m 0 _ (by have := HM.out; omega)).mono ?_; rintro e w7 ⟨⟨sv, rfl, hsm⟩, hb7⟩; (have HB7 := Lib.hid (hHeld.1.trans (Buts.of_below hb7))); (have HY7 : Hid (∃ ys : Array Value, w7.heap[B + 1]? = some (.cells ys 35) ∧ ys.size = 26) := (by obtain ⟨ys, y1, y2⟩ := hHeld.2; exact Lib.hid ⟨ys, (hb7.block (B + 1) (Nat.lt_of_lt_of_le hlt hHeld.1.size)).trans y1, y2⟩)); (have HSM := Lib.hid (And.intro hsm (And.intro hHeld.1.size hb7.size))); clear hb7 hHeld hsm
 go_wp2_with fail
 refine hK.out _ _ (⟨HB7.out, HY7.out⟩) (fun hHeld => ?_)
 clear hK Kc
 (try simp only [ly])
 (refine takeH (i := 7) (v := .agg (X sv).toArray) rfl (by kernel_rfl) (by kernel_rfl) (by kernel_rfl) (fun _ _ _ h => h) (Or.inl ⟨by first | kernel_rfl | rfl, ?_⟩) (by assumption) ?_; (focus (intro w' hSw; rw [HXC.out]; (show Sem.run _ _ w' = _); go_simp; try rfl)); (try simp only [ly]))
 obtain ⟨ys, hy1, hy2⟩ := HY7.out
 have HV1 := Lib.hid hy1
 have HV2 := Lib.hid hy2
 have HB8 := Lib.hid (HB7.out.setRow (X sv).toArray)
 clear hy1 hy2
 refine oneRow (i := 8) (by kernel_rfl) rfl (by kernel_rfl) 35 _ _ rfl (B + 1) (X sv).toArray rfl rfl _ _ HV1.out (by rw [HSZ.out]; exact axis_size) (by rw [HSZ.out, HV2.out]) (by rw [HXC.out]; exact axC_oneC (newX l m hat fast creep) sv nilS nilS HSM.out.1.1.one4 rfl rfl) ?_ ?_
 ·exact ⟨HB8.out, _, setRow_heap _ _ _ _ _ _ HV1.out, HSZ.out _⟩
 refine wpAnyH_done (by kernel_rfl) ?_ _
 go_wp2
 refine post_row rfl rfl (setRow_heap _ _ _ _ _ _ HV1.out) Tryz.underlying35 rfl (by rw [HSZ.out]; exact axis_size) rfl ⟨⟨sv, rfl, ?_⟩, ?_⟩
 ·exact HSM.out.1.row (by have := HSM.out.2.1; have := HBw.out; omega)
 ·rw [← HBw.out]
  exact HB.out.trans (HB8.out.below B (fun b hb => by omega) (by omega))

end Go.Proofs.YthhfnageadckkaaGreat
