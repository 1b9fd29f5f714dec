/- Merged: Layer 27: a block's command, kind by kind. PRINTED by wip/tool/mkcmd.py Layer 27: an asker under way. Layer 27: a block's methods under an asker. PRINTED by wip/tool/mkasks.py -/
import Derived.Test.YtknnhnefbbjcdaaDoorM35
import Derived.Test.YtknnhnefbbjcdaaDoorM02
import Derived.Test.YtknnhnefbbjcdaaDoorHeld
import Derived.Test.YtknnhnefbbjcdaaDoorBqP
namespace Go.Proofs.YtknnhnefbbjcdaaDoor
open Go.RowKit
set_option linter.unusedVariables false
set_option linter.unusedSimpArgs false
attribute [local go_sem] ite_max ite_min vite_max vite_min ext_cell ext_frozen

structure CV (w W : World) (B : Nat) (i kind : Int) (g off n c : Nat) (vs : List Int) : Prop where
 c0 : W.cell? ⟨B, 0, none⟩ = some (.int .i64 i)
 c1 : W.cell? ⟨B, 1, none⟩ = some (.int .i64 kind)
 c2 : W.cell? ⟨B, 2, none⟩ = some (.slice (some ⟨g, off, none⟩) n c)
 rv : Row W (B + 1) [0, 0, 0, 0, 0, 0, 0]
 dv : Row W (B + 2) vs
 hw : w.heap.size ≤ B
 old : Below w.heap.size w W
section
variable {w W W' : World} {B g off n c : Nat} {i kind : Int} {vs : List Int}
theorem CV.ins (h : CV w W B i kind g off n c vs) : W.cell? ⟨B, 0, none⟩ = some (.int .i64 i) ∧ W.cell? ⟨B, 1, none⟩ = some (.int .i64 kind) ∧ W.cell? ⟨B, 2, none⟩ = some (.slice (some ⟨g, off, none⟩) n c) ∧ B < W.heap.size ∧ B + 2 < W.heap.size :=
 ⟨h.c0, h.c1, h.c2, by have := h.dv.lt; omega, h.dv.lt⟩
theorem CV.below (h : CV w W B i kind g off n c vs) (hb : Below W.heap.size W W') : CV w W' B i kind g off n c vs := by
 have hl := h.dv.lt
 have hc : ∀ o, W'.cell? ⟨B, o, none⟩ = W.cell? ⟨B, o, none⟩ := fun o => hb.cell (p := ⟨B, o, none⟩) (by show B < _; omega)
 exact ⟨(hc _).trans h.c0, (hc _).trans h.c1, (hc _).trans h.c2, h.rv.below hb, h.dv.below hb, h.hw, h.old.trans (hb.mono h.old.size)⟩
theorem CV.put (h : CV w W B i kind g off n c vs) (j : Nat) (v : Int) : CV w (W.setCell ⟨B + 2, j, none⟩ (.int .i64 v)) B i kind g off n c (vs.set j v) := by
 have hb : But (B + 2) W (W.setCell ⟨B + 2, j, none⟩ (.int .i64 v)) := (But.refl _ W).set j _
 have hl := h.dv.lt
 have hw := h.hw
 have hs := h.old.size
 exact ⟨(hb.cell B 0 (by omega) (by omega)).trans h.c0, (hb.cell B 1 (by omega) (by omega)).trans h.c1, (hb.cell B 2 (by omega) (by omega)).trans h.c2, ⟨by have := h.rv.lt; simpa [World.setCell] using this, fun j z hz => (hb.cell (B + 1) j (by omega) (by omega)).trans (h.rv.cell j z hz), fun o => (hb.froz (B + 1) o (by omega) (by omega)).trans (h.rv.free o)⟩, h.dv.set j v, hw, h.old.trans (hb.below _ (by omega) hs)⟩
theorem CV.start {T2 : TypeId} {T0 T1 : TypeId} (hb : Below w.heap.size w W) (hB : B = w.heap.size) (h0 : W.heap[B]? = some (.cells #[.int .i64 i, .int .i64 kind, .slice (some ⟨g, off, none⟩) n c] T0)) (h1 : W.heap[B + 1]? = some (.cells #[.int .i64 0, .int .i64 0, .int .i64 0, .int .i64 0, .int .i64 0, .int .i64 0, .int .i64 0] T1)) (h2 : W.heap[B + 2]? = some (.cells (vs.map (Value.int .i64)).toArray T2)) : CV w W B i kind g off n c vs := by
 refine ⟨heap_cell 0 _ h0 rfl, heap_cell 1 _ h0 rfl, heap_cell 2 _ h0 rfl, ⟨(Array.getElem?_eq_some_iff.1 h1).1, fun j z hz => ?_, fun o => heap_free o h1⟩, ⟨(Array.getElem?_eq_some_iff.1 h2).1, fun j z hz => heap_cell j _ h2 (by rw [List.getElem?_toArray, List.getElem?_map, hz]; rfl), fun o => heap_free o h2⟩, by omega, hb⟩
 have hj : j < 7 := (List.getElem?_eq_some_iff.1 hz).1
 rcases (show j = 0 ∨ j = 1 ∨ j = 2 ∨ j = 3 ∨ j = 4 ∨ j = 5 ∨ j = 6 by omega) with rfl | rfl | rfl | rfl | rfl | rfl | rfl
 all_goals (cases hz; exact heap_cell _ _ h1 rfl)
end
theorem heap_alloc_atN {w : World} {o : Obj} {k : Nat} (h : w.heap.size = k) : (w.alloc o).heap[k]? = some o := h ▸ heap_alloc_new w o
def CmdV (id : Int) (e : Ending) : Prop := ∃ a1 a2 a3 a4 a5 a6 : Int, e = .returned (.agg #[.int .i64 id, .int .i64 a1, .int .i64 a2, .int .i64 a3, .int .i64 a4, .int .i64 a5, .int .i64 a6])
theorem bget_lit (i kind : Int) (g off n c : Nat) (zs : List Int) (nm : ByteArray) (k : Nat) (w : World) (ht : Blanks w) (hr : Row w g zs) (hk : px kind nm = some k) (hkn : k < n) (hnc : n ≤ c ∧ c ≤ 9223372036854775807) (hz : off + n ≤ zs.length) :
  ∃ z, ∀ W, Below w.heap.size w W → Calls Tryd.prog 19 #[.agg #[.int .i64 i, .int .i64 kind, .slice (some ⟨g, off, none⟩) n c], .string nm] W fun e w' => e = .returned (.int .i64 z) ∧ Below W.heap.size W w' := by
 obtain ⟨z, hzz⟩ : ∃ z, zs[off + k]? = some z := ⟨_, List.getElem?_eq_getElem (by omega)⟩
 exact ⟨z, fun W hW => bget_at i kind g off n c zs nm k z W (ht.on hW) (hr.below hW) hk hkn hnc hzz⟩

set_option maxRecDepth 100000 in
set_option maxHeartbeats 2000000 in
theorem bcmd21 (i id : Int) (A : Option Addr) (n c : Nat) (w : World) : Calls Tryd.prog 44 #[insV i 21 A n c, .int .i64 id] w fun e w' => CmdV id e ∧ Below w.heap.size w w' := by
 show Calls Tryd.prog 44 #[.agg #[.int .i64 i, .int .i64 21, .slice A n c], .int .i64 id] w _
 go_enter Tryd.func44, Tryd.ntmps44
 go_wp2
 refine bodyPost_ret (v := .agg #[.int .i64 id, .int .i64 7, .int .i64 0, .int .i64 0, .int .i64 0, .int .i64 0, .int .i64 0]) (by simp [results, Tryd.results44, go_sem]) rfl ⟨⟨_, _, _, _, _, _, rfl⟩, by exact belowBy⟩

set_option maxRecDepth 100000 in
set_option maxHeartbeats 2000000 in
theorem bcmd22 (i id : Int) (A : Option Addr) (n c : Nat) (w : World) : Calls Tryd.prog 44 #[insV i 22 A n c, .int .i64 id] w fun e w' => CmdV id e ∧ Below w.heap.size w w' := by
 show Calls Tryd.prog 44 #[.agg #[.int .i64 i, .int .i64 22, .slice A n c], .int .i64 id] w _
 go_enter Tryd.func44, Tryd.ntmps44
 go_wp2
 refine bodyPost_ret (v := .agg #[.int .i64 id, .int .i64 6, .int .i64 0, .int .i64 0, .int .i64 0, .int .i64 0, .int .i64 0]) (by simp [results, Tryd.results44, go_sem]) rfl ⟨⟨_, _, _, _, _, _, rfl⟩, by exact belowBy⟩

set_option maxRecDepth 100000 in
set_option maxHeartbeats 2000000 in
theorem bcmd23 (i id : Int) (A : Option Addr) (n c : Nat) (w : World) : Calls Tryd.prog 44 #[insV i 23 A n c, .int .i64 id] w fun e w' => CmdV id e ∧ Below w.heap.size w w' := by
 show Calls Tryd.prog 44 #[.agg #[.int .i64 i, .int .i64 23, .slice A n c], .int .i64 id] w _
 go_enter Tryd.func44, Tryd.ntmps44
 go_wp2
 refine bodyPost_ret (v := .agg #[.int .i64 id, .int .i64 5, .int .i64 0, .int .i64 0, .int .i64 0, .int .i64 0, .int .i64 0]) (by simp [results, Tryd.results44, go_sem]) rfl ⟨⟨_, _, _, _, _, _, rfl⟩, by exact belowBy⟩

set_option maxRecDepth 100000 in
set_option maxHeartbeats 4000000 in
theorem bcmd24 (i id : Int) (g off c : Nat) (zs : List Int) (w : World) (ht : Blanks w) (hr : Row w g zs) (hnc : 12 ≤ c ∧ c ≤ 9223372036854775807) (hz : off + 12 ≤ zs.length) : Calls Tryd.prog 44 #[insV i 24 (some ⟨g, off, none⟩) 12 c, .int .i64 id] w fun e w' => CmdV id e ∧ Below w.heap.size w w' := by
 obtain ⟨y0, hy0⟩ := bget_lit i 24 g off 12 c zs ⟨#[80, 111, 115, 105, 116, 105, 111, 110]⟩ 2 w ht hr (show px 24 ⟨#[80, 111, 115, 105, 116, 105, 111, 110]⟩ = some 2 by kernel_rfl) (by decide) hnc hz
 have HG0 := Lib.hid hy0
 obtain ⟨y1, hy1⟩ := bget_lit i 24 g off 12 c zs ⟨#[86, 101, 108, 111, 99, 105, 116, 121]⟩ 3 w ht hr (show px 24 ⟨#[86, 101, 108, 111, 99, 105, 116, 121]⟩ = some 3 by kernel_rfl) (by decide) hnc hz
 have HG1 := Lib.hid hy1
 obtain ⟨y2, hy2⟩ := bget_lit i 24 g off 12 c zs ⟨#[66, 117, 102, 102, 101, 114, 77, 111, 100, 101]⟩ 4 w ht hr (show px 24 ⟨#[66, 117, 102, 102, 101, 114, 77, 111, 100, 101]⟩ = some 4 by kernel_rfl) (by decide) hnc hz
 have HG2 := Lib.hid hy2
 clear ht hr hz hy0 hy1 hy2
 show Calls Tryd.prog 44 #[.agg #[.int .i64 i, .int .i64 24, .slice (some ⟨g, off, none⟩) 12 c], .int .i64 id] w _
 go_enter Tryd.func44, Tryd.ntmps44
 go_upto_region 10 with (fail)
 refine wp_name fun W hW => ?_
 obtain ⟨B, hB⟩ : ∃ B, B = w.heap.size := ⟨_, rfl⟩
 have hbel : Below w.heap.size w W := by rw [hW.out]; exact belowBy
 have HCV : Hid (CV w W B i 24 g off 12 c [id, 0, 0, 0, 0, 0, 0]) := Lib.hid (CV.start hbel hB (by rw [hW.out, hB]; exact (heap_alloc_old _ _ (by simp; omega)).trans ((heap_alloc_old _ _ (by simp)).trans (heap_alloc_new _ _))) (by rw [hW.out, hB]; exact (heap_alloc_old _ _ (by simp)).trans (by rw [show w.heap.size + 1 = (w.alloc (.cells #[.int .i64 i, .int .i64 24, .slice (some ⟨g, off, none⟩) 12 c] 68)).heap.size by simp]; exact heap_alloc_new _ _)) (by rw [hW.out, hB]; exact heap_alloc_atN (by simp)))
 (try rw [show w.heap.size + 1 + 1 = B + 2 by omega])
 (try rw [show w.heap.size + 2 = B + 2 by omega])
 (try rw [show w.heap.size + 1 = B + 1 by omega])
 (try rw [← hB])
 clear hW hbel hB
 obtain ⟨c0, c1, c2, lB, lD⟩ := HCV.out.ins
 have e1 := HCV.out.dv.cell 1 _ rfl
 have e2 := HCV.out.dv.cell 2 _ rfl
 have e3 := HCV.out.dv.cell 3 _ rfl
 have e5 := HCV.out.dv.cell 5 _ rfl
 have e6 := HCV.out.dv.cell 6 _ rfl
 have f1 := HCV.out.dv.free 1
 have f2 := HCV.out.dv.free 2
 have f3 := HCV.out.dv.free 3
 have f5 := HCV.out.dv.free 5
 have f6 := HCV.out.dv.free 6
 clear e1 e2 e3 e5 e6 f1 f2 f3 f5 f6
 have HCD := Lib.hid (HCV.out.below (show Below W.heap.size W W.drew by exact belowBy))
 refine wp_region_held_drew (S := (fun W' => W'.cell? ⟨B, 0, none⟩ = some (.int .i64 i) ∧ W'.cell? ⟨B, 1, none⟩ = some (.int .i64 24) ∧ W'.cell? ⟨B, 2, none⟩ = some (.slice (some ⟨g, off, none⟩) 12 c) ∧ B < W'.heap.size ∧ B + 2 < W'.heap.size)) (by kernel_rfl) (HCD.out.ins) (fun hHeld => ?_)
 (try simp only [Act.put, List.setIfInBounds_toArray, List.set_cons_zero, List.set_cons_succ])
 (refine takeH (i := 0) (v := ?_) rfl (by kernel_rfl) (by kernel_rfl) (by kernel_rfl) (fun _ _ _ h => h) (Or.inl ⟨by first | kernel_rfl | rfl, ?_⟩) (by assumption) ?_; rotate_left; (focus (intro w' hSw; (try dsimp only at hSw); go_simp; try (with_reducible rfl))))
 (refine takeH (i := 2) (v := ?_) rfl (by kernel_rfl) (by kernel_rfl) (by kernel_rfl) (fun _ _ _ h => h) (Or.inl ⟨by first | kernel_rfl | rfl, ?_⟩) (by assumption) ?_; rotate_left; (focus (intro w' hSw; (try dsimp only at hSw); go_simp; try (with_reducible rfl))))
 (refine takeH (i := 4) (v := ?_) rfl (by kernel_rfl) (by kernel_rfl) (by kernel_rfl) (fun _ _ _ h => h) (Or.inl ⟨by first | kernel_rfl | rfl, ?_⟩) (by assumption) ?_; rotate_left; (focus (intro w' hSw; (try dsimp only at hSw); go_simp; try (with_reducible rfl))); (try simp only [Act.put, List.setIfInBounds_toArray, List.set_cons_zero, List.set_cons_succ]))
 refine oneH (i := 1) (by kernel_rfl) rfl (fun K hK => ?_)
 go_simp
 go_at_call 19
 refine (HG0.out _ HCD.out.old).mono ?_
 rintro e v0 ⟨rfl, hb0⟩
 have HD0 := Lib.hid (HCD.out.below hb0)
 clear hb0
 go_wp2_with fail
 refine hK.out _ _ HD0.out.ins (fun hHeld => ?_)
 clear hK K
 (try simp only [Act.put, List.setIfInBounds_toArray, List.set_cons_zero, List.set_cons_succ])
 refine oneH (i := 3) (by kernel_rfl) rfl (fun K hK => ?_)
 go_simp
 go_at_call 19
 refine (HG1.out _ HD0.out.old).mono ?_
 rintro e w2 ⟨rfl, hb1⟩
 have HD1 := Lib.hid (HD0.out.below hb1)
 clear hb1
 go_wp2_with fail
 refine hK.out _ _ HD1.out.ins (fun hHeld => ?_)
 clear hK K
 (try simp only [Act.put, List.setIfInBounds_toArray, List.set_cons_zero, List.set_cons_succ])
 have hb2 : True := trivial
 have HC2 := Lib.hid (HD1.out)
 clear c0 c1 c2 lB lD hb2 HCV
 obtain ⟨c0, c1, c2, lB, lD⟩ := HC2.out.ins
 have e1 := HC2.out.dv.cell 1 _ rfl
 have e2 := HC2.out.dv.cell 2 _ rfl
 have e3 := HC2.out.dv.cell 3 _ rfl
 have e5 := HC2.out.dv.cell 5 _ rfl
 have e6 := HC2.out.dv.cell 6 _ rfl
 have f1 := HC2.out.dv.free 1
 have f2 := HC2.out.dv.free 2
 have f3 := HC2.out.dv.free 3
 have f5 := HC2.out.dv.free 5
 have f6 := HC2.out.dv.free 6
 refine oneH (i := 5) (by kernel_rfl) rfl (fun K hK => ?_)
 go_simp
 refine hK.out _ _ (HC2.out.put 1 _).ins (fun hHeld => ?_)
 clear hK K
 (try simp only [Act.put, List.setIfInBounds_toArray, List.set_cons_zero, List.set_cons_succ])
 (refine takeH (i := 6) (v := ?_) rfl (by kernel_rfl) (by kernel_rfl) (by kernel_rfl) (fun _ _ _ h => h) (Or.inl ⟨by first | kernel_rfl | rfl, ?_⟩) (by assumption) ?_; rotate_left; (focus (intro w' hSw; (try dsimp only at hSw); go_simp; try (with_reducible rfl))); (try simp only [Act.put, List.setIfInBounds_toArray, List.set_cons_zero, List.set_cons_succ]))
 refine oneH (i := 7) (by kernel_rfl) rfl (fun K hK => ?_)
 go_simp
 refine hK.out _ _ ((HC2.out.put 1 _).put 2 _).ins (fun hHeld => ?_)
 clear hK K
 (try simp only [Act.put, List.setIfInBounds_toArray, List.set_cons_zero, List.set_cons_succ])
 (refine takeH (i := 8) (v := ?_) rfl (by kernel_rfl) (by kernel_rfl) (by kernel_rfl) (fun _ _ _ h => h) (Or.inl ⟨by first | kernel_rfl | rfl, ?_⟩) (by assumption) ?_; rotate_left; (focus (intro w' hSw; (try dsimp only at hSw); go_simp; try (with_reducible rfl))); (try simp only [Act.put, List.setIfInBounds_toArray, List.set_cons_zero, List.set_cons_succ]))
 refine oneH (i := 9) (by kernel_rfl) rfl (fun K hK => ?_)
 go_simp
 refine hK.out _ _ (((HC2.out.put 1 _).put 2 _).put 3 _).ins (fun hHeld => ?_)
 clear hK K
 (try simp only [Act.put, List.setIfInBounds_toArray, List.set_cons_zero, List.set_cons_succ])
 refine wpAnyH_done (by kernel_rfl) ?_ _
 (try simp only [Act.put, List.setIfInBounds_toArray, List.set_cons_zero, List.set_cons_succ])
 go_upto_region 18 with (fail)
 refine wp_name fun W3 hW3 => ?_
 have HH : Hid (CV w W3 B i 24 g off 12 c [id, 1, y0, y1, 0, 0, 0]) := Lib.hid (by rw [hW3.out]; exact (((HC2.out.put 1 1).put 2 y0).put 3 y1))
 clear hW3 c0 c1 c2 lB lD e1 e2 e3 e5 e6 f1 f2 f3 f5 f6 HC2
 obtain ⟨c0, c1, c2, lB, lD⟩ := HH.out.ins
 go_wp2_with fail
 refine (HG2.out _ HH.out.old).mono ?_
 rintro e w4 ⟨rfl, hb4⟩
 have HC4 := Lib.hid (HH.out.below hb4)
 clear c0 c1 c2 lB lD hb4 HH
 have e4 := HC4.out.dv.cell 4 _ rfl
 have f4 := HC4.out.dv.free 4
 have lD := HC4.out.dv.lt
 obtain ⟨mo, hmo⟩ : ∃ m : Int, (if y2 < 0 ∨ 5 < y2 then 6 else y2) = m := ⟨_, rfl⟩
 have HMO := Lib.hid hmo
 clear hmo
 have HM : Hid (∃ mm, mm = 6 ∨ mm = y2) := Lib.hid ⟨y2, .inr rfl⟩
 clear HM HMO
 by_cases h0 : y2 < 0
 rotate_left
 by_cases h5 : 5 < y2
 all_goals
  go_upto_region 23 with (fail)
  refine wp_name fun W5 hW5 => ?_
  obtain ⟨mm, HH⟩ : ∃ mm, Hid (CV w W5 B i 24 g off 12 c [id, 1, y0, y1, mm, 0, 0]) := ⟨_, Lib.hid (by rw [hW5.out]; exact HC4.out.put 4 _)⟩
  clear hW5 e4 f4 lD HC4
  obtain ⟨c0, c1, c2, lB, lD⟩ := HH.out.ins
  have e0 := HH.out.dv.cell 0 _ rfl
  have e1 := HH.out.dv.cell 1 _ rfl
  have e2 := HH.out.dv.cell 2 _ rfl
  have e3 := HH.out.dv.cell 3 _ rfl
  have e4 := HH.out.dv.cell 4 _ rfl
  have e5 := HH.out.dv.cell 5 _ rfl
  have e6 := HH.out.dv.cell 6 _ rfl
  have r0 := HH.out.rv.cell 0 _ rfl
  have r1 := HH.out.rv.cell 1 _ rfl
  have r2 := HH.out.rv.cell 2 _ rfl
  have r3 := HH.out.rv.cell 3 _ rfl
  have r4 := HH.out.rv.cell 4 _ rfl
  have r5 := HH.out.rv.cell 5 _ rfl
  have r6 := HH.out.rv.cell 6 _ rfl
  have f0 := HH.out.rv.free 0
  have f1 := HH.out.rv.free 1
  have f2 := HH.out.rv.free 2
  have f3 := HH.out.rv.free 3
  have f4 := HH.out.rv.free 4
  have f5 := HH.out.rv.free 5
  have f6 := HH.out.rv.free 6
  have lR := HH.out.rv.lt
  go_wp2
  refine bodyPost_ret (v := .agg #[.int .i64 id, .int .i64 1, .int .i64 y0, .int .i64 y1, .int .i64 mm, .int .i64 0, .int .i64 0]) (by simp [results, Tryd.results44, go_sem, r0, r1, r2, r3, r4, r5, r6, f0, f1, f2, f3, f4, f5, f6]) rfl ⟨⟨_, _, _, _, _, _, rfl⟩, HH.out.old.trans (But.below ((((((((But.refl (B + 1) _).set 0 _).set 1 _).set 2 _).set 3 _).set 4 _).set 5 _).set 6 _) _ (by have := HH.out.hw; omega) HH.out.old.size)⟩

set_option maxRecDepth 100000 in
set_option maxHeartbeats 4000000 in
theorem bcmd25 (i id : Int) (g off c : Nat) (zs : List Int) (w : World) (ht : Blanks w) (hr : Row w g zs) (hnc : 12 ≤ c ∧ c ≤ 9223372036854775807) (hz : off + 12 ≤ zs.length) : Calls Tryd.prog 44 #[insV i 25 (some ⟨g, off, none⟩) 12 c, .int .i64 id] w fun e w' => CmdV id e ∧ Below w.heap.size w w' := by
 obtain ⟨y0, hy0⟩ := bget_lit i 25 g off 12 c zs ⟨#[68, 105, 115, 116, 97, 110, 99, 101]⟩ 2 w ht hr (show px 25 ⟨#[68, 105, 115, 116, 97, 110, 99, 101]⟩ = some 2 by kernel_rfl) (by decide) hnc hz
 have HG0 := Lib.hid hy0
 obtain ⟨y1, hy1⟩ := bget_lit i 25 g off 12 c zs ⟨#[86, 101, 108, 111, 99, 105, 116, 121]⟩ 3 w ht hr (show px 25 ⟨#[86, 101, 108, 111, 99, 105, 116, 121]⟩ = some 3 by kernel_rfl) (by decide) hnc hz
 have HG1 := Lib.hid hy1
 obtain ⟨y2, hy2⟩ := bget_lit i 25 g off 12 c zs ⟨#[66, 117, 102, 102, 101, 114, 77, 111, 100, 101]⟩ 4 w ht hr (show px 25 ⟨#[66, 117, 102, 102, 101, 114, 77, 111, 100, 101]⟩ = some 4 by kernel_rfl) (by decide) hnc hz
 have HG2 := Lib.hid hy2
 clear ht hr hz hy0 hy1 hy2
 show Calls Tryd.prog 44 #[.agg #[.int .i64 i, .int .i64 25, .slice (some ⟨g, off, none⟩) 12 c], .int .i64 id] w _
 go_enter Tryd.func44, Tryd.ntmps44
 go_upto_region 13 with (fail)
 refine wp_name fun W hW => ?_
 obtain ⟨B, hB⟩ : ∃ B, B = w.heap.size := ⟨_, rfl⟩
 have hbel : Below w.heap.size w W := by rw [hW.out]; exact belowBy
 have HCV : Hid (CV w W B i 25 g off 12 c [id, 0, 0, 0, 0, 0, 0]) := Lib.hid (CV.start hbel hB (by rw [hW.out, hB]; exact (heap_alloc_old _ _ (by simp; omega)).trans ((heap_alloc_old _ _ (by simp)).trans (heap_alloc_new _ _))) (by rw [hW.out, hB]; exact (heap_alloc_old _ _ (by simp)).trans (by rw [show w.heap.size + 1 = (w.alloc (.cells #[.int .i64 i, .int .i64 25, .slice (some ⟨g, off, none⟩) 12 c] 68)).heap.size by simp]; exact heap_alloc_new _ _)) (by rw [hW.out, hB]; exact heap_alloc_atN (by simp)))
 (try rw [show w.heap.size + 1 + 1 = B + 2 by omega])
 (try rw [show w.heap.size + 2 = B + 2 by omega])
 (try rw [show w.heap.size + 1 = B + 1 by omega])
 (try rw [← hB])
 clear hW hbel hB
 obtain ⟨c0, c1, c2, lB, lD⟩ := HCV.out.ins
 have e1 := HCV.out.dv.cell 1 _ rfl
 have e2 := HCV.out.dv.cell 2 _ rfl
 have e3 := HCV.out.dv.cell 3 _ rfl
 have e5 := HCV.out.dv.cell 5 _ rfl
 have e6 := HCV.out.dv.cell 6 _ rfl
 have f1 := HCV.out.dv.free 1
 have f2 := HCV.out.dv.free 2
 have f3 := HCV.out.dv.free 3
 have f5 := HCV.out.dv.free 5
 have f6 := HCV.out.dv.free 6
 clear e1 e2 e3 e5 e6 f1 f2 f3 f5 f6
 have HCD := Lib.hid (HCV.out.below (show Below W.heap.size W W.drew by exact belowBy))
 refine wp_region_held_drew (S := (fun W' => W'.cell? ⟨B, 0, none⟩ = some (.int .i64 i) ∧ W'.cell? ⟨B, 1, none⟩ = some (.int .i64 25) ∧ W'.cell? ⟨B, 2, none⟩ = some (.slice (some ⟨g, off, none⟩) 12 c) ∧ B < W'.heap.size ∧ B + 2 < W'.heap.size)) (by kernel_rfl) (HCD.out.ins) (fun hHeld => ?_)
 (try simp only [Act.put, List.setIfInBounds_toArray, List.set_cons_zero, List.set_cons_succ])
 (refine takeH (i := 0) (v := ?_) rfl (by kernel_rfl) (by kernel_rfl) (by kernel_rfl) (fun _ _ _ h => h) (Or.inl ⟨by first | kernel_rfl | rfl, ?_⟩) (by assumption) ?_; rotate_left; (focus (intro w' hSw; (try dsimp only at hSw); go_simp; try (with_reducible rfl))))
 (refine takeH (i := 1) (v := ?_) rfl (by kernel_rfl) (by kernel_rfl) (by kernel_rfl) (fun _ _ _ h => h) (Or.inl ⟨by first | kernel_rfl | rfl, ?_⟩) (by assumption) ?_; rotate_left; (focus (intro w' hSw; (try dsimp only at hSw); go_simp; try (with_reducible rfl))))
 (refine takeH (i := 2) (v := ?_) rfl (by kernel_rfl) (by kernel_rfl) (by kernel_rfl) (fun _ _ _ h => h) (Or.inl ⟨by first | kernel_rfl | rfl, ?_⟩) (by assumption) ?_; rotate_left; (focus (intro w' hSw; (try dsimp only at hSw); go_simp; try (with_reducible rfl))))
 (refine takeH (i := 3) (v := ?_) rfl (by kernel_rfl) (by kernel_rfl) (by kernel_rfl) (fun _ _ _ h => h) (Or.inl ⟨by first | kernel_rfl | rfl, ?_⟩) (by assumption) ?_; rotate_left; (focus (intro w' hSw; (try dsimp only at hSw); go_simp; try (with_reducible rfl))))
 (refine takeH (i := 4) (v := ?_) rfl (by kernel_rfl) (by kernel_rfl) (by kernel_rfl) (fun _ _ _ h => h) (Or.inl ⟨by first | kernel_rfl | rfl, ?_⟩) (by assumption) ?_; rotate_left; (focus (intro w' hSw; (try dsimp only at hSw); go_simp; try (with_reducible rfl))))
 (refine takeH (i := 6) (v := ?_) rfl (by kernel_rfl) (by kernel_rfl) (by kernel_rfl) (fun _ _ _ h => h) (Or.inl ⟨by first | kernel_rfl | rfl, ?_⟩) (by assumption) ?_; rotate_left; (focus (intro w' hSw; (try dsimp only at hSw); go_simp; try (with_reducible rfl))))
 (refine takeH (i := 8) (v := ?_) rfl (by kernel_rfl) (by kernel_rfl) (by kernel_rfl) (fun _ _ _ h => h) (Or.inl ⟨by first | kernel_rfl | rfl, ?_⟩) (by assumption) ?_; rotate_left; (focus (intro w' hSw; (try dsimp only at hSw); go_simp; try (with_reducible rfl))); (try simp only [Act.put, List.setIfInBounds_toArray, List.set_cons_zero, List.set_cons_succ]))
 refine oneH (i := 5) (by kernel_rfl) rfl (fun K hK => ?_)
 go_simp
 go_at_call 19
 refine (HG0.out _ HCD.out.old).mono ?_
 rintro e v0 ⟨rfl, hb0⟩
 have HD0 := Lib.hid (HCD.out.below hb0)
 clear hb0
 go_wp2_with fail
 refine hK.out _ _ HD0.out.ins (fun hHeld => ?_)
 clear hK K
 (try simp only [Act.put, List.setIfInBounds_toArray, List.set_cons_zero, List.set_cons_succ])
 refine oneH (i := 7) (by kernel_rfl) rfl (fun K hK => ?_)
 go_simp
 go_at_call 19
 refine (HG1.out _ HD0.out.old).mono ?_
 rintro e w2 ⟨rfl, hb1⟩
 have HD1 := Lib.hid (HD0.out.below hb1)
 clear hb1
 go_wp2_with fail
 refine hK.out _ _ HD1.out.ins (fun hHeld => ?_)
 clear hK K
 (try simp only [Act.put, List.setIfInBounds_toArray, List.set_cons_zero, List.set_cons_succ])
 have hb2 : True := trivial
 have HC2 := Lib.hid (HD1.out)
 clear c0 c1 c2 lB lD hb2 HCV
 obtain ⟨c0, c1, c2, lB, lD⟩ := HC2.out.ins
 have e1 := HC2.out.dv.cell 1 _ rfl
 have e2 := HC2.out.dv.cell 2 _ rfl
 have e3 := HC2.out.dv.cell 3 _ rfl
 have e5 := HC2.out.dv.cell 5 _ rfl
 have e6 := HC2.out.dv.cell 6 _ rfl
 have f1 := HC2.out.dv.free 1
 have f2 := HC2.out.dv.free 2
 have f3 := HC2.out.dv.free 3
 have f5 := HC2.out.dv.free 5
 have f6 := HC2.out.dv.free 6
 refine oneH (i := 9) (by kernel_rfl) rfl (fun K hK => ?_)
 go_simp
 refine hK.out _ _ (HC2.out.put 1 _).ins (fun hHeld => ?_)
 clear hK K
 (try simp only [Act.put, List.setIfInBounds_toArray, List.set_cons_zero, List.set_cons_succ])
 (refine takeH (i := 10) (v := ?_) rfl (by kernel_rfl) (by kernel_rfl) (by kernel_rfl) (fun _ _ _ h => h) (Or.inl ⟨by first | kernel_rfl | rfl, ?_⟩) (by assumption) ?_; rotate_left; (focus (intro w' hSw; (try dsimp only at hSw); go_simp; try (with_reducible rfl))); (try simp only [Act.put, List.setIfInBounds_toArray, List.set_cons_zero, List.set_cons_succ]))
 refine oneH (i := 11) (by kernel_rfl) rfl (fun K hK => ?_)
 go_simp
 refine hK.out _ _ ((HC2.out.put 1 _).put 2 _).ins (fun hHeld => ?_)
 clear hK K
 (try simp only [Act.put, List.setIfInBounds_toArray, List.set_cons_zero, List.set_cons_succ])
 (refine takeH (i := 12) (v := ?_) rfl (by kernel_rfl) (by kernel_rfl) (by kernel_rfl) (fun _ _ _ h => h) (Or.inl ⟨by first | kernel_rfl | rfl, ?_⟩) (by assumption) ?_; rotate_left; (focus (intro w' hSw; (try dsimp only at hSw); go_simp; try (with_reducible rfl))); (try simp only [Act.put, List.setIfInBounds_toArray, List.set_cons_zero, List.set_cons_succ]))
 refine oneH (i := 13) (by kernel_rfl) rfl (fun K hK => ?_)
 go_simp
 refine hK.out _ _ (((HC2.out.put 1 _).put 2 _).put 3 _).ins (fun hHeld => ?_)
 clear hK K
 (try simp only [Act.put, List.setIfInBounds_toArray, List.set_cons_zero, List.set_cons_succ])
 refine wpAnyH_done (by kernel_rfl) ?_ _
 (try simp only [Act.put, List.setIfInBounds_toArray, List.set_cons_zero, List.set_cons_succ])
 go_upto_region 18 with (fail)
 refine wp_name fun W3 hW3 => ?_
 have HH : Hid (CV w W3 B i 25 g off 12 c [id, 2, y0, y1, 0, 0, 0]) := Lib.hid (by rw [hW3.out]; exact (((HC2.out.put 1 2).put 2 y0).put 3 y1))
 clear hW3 c0 c1 c2 lB lD e1 e2 e3 e5 e6 f1 f2 f3 f5 f6 HC2
 obtain ⟨c0, c1, c2, lB, lD⟩ := HH.out.ins
 go_wp2_with fail
 refine (HG2.out _ HH.out.old).mono ?_
 rintro e w4 ⟨rfl, hb4⟩
 have HC4 := Lib.hid (HH.out.below hb4)
 clear c0 c1 c2 lB lD hb4 HH
 have e4 := HC4.out.dv.cell 4 _ rfl
 have f4 := HC4.out.dv.free 4
 have lD := HC4.out.dv.lt
 obtain ⟨mo, hmo⟩ : ∃ m : Int, (if y2 < 0 ∨ 5 < y2 then 6 else y2) = m := ⟨_, rfl⟩
 have HMO := Lib.hid hmo
 clear hmo
 have HM : Hid (∃ mm, mm = 6 ∨ mm = y2) := Lib.hid ⟨y2, .inr rfl⟩
 clear HM HMO
 by_cases h0 : y2 < 0
 rotate_left
 by_cases h5 : 5 < y2
 all_goals
  go_upto_region 23 with (fail)
  refine wp_name fun W5 hW5 => ?_
  obtain ⟨mm, HH⟩ : ∃ mm, Hid (CV w W5 B i 25 g off 12 c [id, 2, y0, y1, mm, 0, 0]) := ⟨_, Lib.hid (by rw [hW5.out]; exact HC4.out.put 4 _)⟩
  clear hW5 e4 f4 lD HC4
  obtain ⟨c0, c1, c2, lB, lD⟩ := HH.out.ins
  have e0 := HH.out.dv.cell 0 _ rfl
  have e1 := HH.out.dv.cell 1 _ rfl
  have e2 := HH.out.dv.cell 2 _ rfl
  have e3 := HH.out.dv.cell 3 _ rfl
  have e4 := HH.out.dv.cell 4 _ rfl
  have e5 := HH.out.dv.cell 5 _ rfl
  have e6 := HH.out.dv.cell 6 _ rfl
  have r0 := HH.out.rv.cell 0 _ rfl
  have r1 := HH.out.rv.cell 1 _ rfl
  have r2 := HH.out.rv.cell 2 _ rfl
  have r3 := HH.out.rv.cell 3 _ rfl
  have r4 := HH.out.rv.cell 4 _ rfl
  have r5 := HH.out.rv.cell 5 _ rfl
  have r6 := HH.out.rv.cell 6 _ rfl
  have f0 := HH.out.rv.free 0
  have f1 := HH.out.rv.free 1
  have f2 := HH.out.rv.free 2
  have f3 := HH.out.rv.free 3
  have f4 := HH.out.rv.free 4
  have f5 := HH.out.rv.free 5
  have f6 := HH.out.rv.free 6
  have lR := HH.out.rv.lt
  go_wp2
  refine bodyPost_ret (v := .agg #[.int .i64 id, .int .i64 2, .int .i64 y0, .int .i64 y1, .int .i64 mm, .int .i64 0, .int .i64 0]) (by simp [results, Tryd.results44, go_sem, r0, r1, r2, r3, r4, r5, r6, f0, f1, f2, f3, f4, f5, f6]) rfl ⟨⟨_, _, _, _, _, _, rfl⟩, HH.out.old.trans (But.below ((((((((But.refl (B + 1) _).set 0 _).set 1 _).set 2 _).set 3 _).set 4 _).set 5 _).set 6 _) _ (by have := HH.out.hw; omega) HH.out.old.size)⟩

set_option maxRecDepth 100000 in
set_option maxHeartbeats 4000000 in
theorem bcmd26 (i id : Int) (g off c : Nat) (zs : List Int) (w : World) (ht : Blanks w) (hr : Row w g zs) (hnc : 12 ≤ c ∧ c ≤ 9223372036854775807) (hz : off + 12 ≤ zs.length) : Calls Tryd.prog 44 #[insV i 26 (some ⟨g, off, none⟩) 12 c, .int .i64 id] w fun e w' => CmdV id e ∧ Below w.heap.size w w' := by
 obtain ⟨y0, hy0⟩ := bget_lit i 26 g off 12 c zs ⟨#[68, 105, 115, 116, 97, 110, 99, 101]⟩ 2 w ht hr (show px 26 ⟨#[68, 105, 115, 116, 97, 110, 99, 101]⟩ = some 2 by kernel_rfl) (by decide) hnc hz
 have HG0 := Lib.hid hy0
 obtain ⟨y1, hy1⟩ := bget_lit i 26 g off 12 c zs ⟨#[86, 101, 108, 111, 99, 105, 116, 121]⟩ 3 w ht hr (show px 26 ⟨#[86, 101, 108, 111, 99, 105, 116, 121]⟩ = some 3 by kernel_rfl) (by decide) hnc hz
 have HG1 := Lib.hid hy1
 obtain ⟨y2, hy2⟩ := bget_lit i 26 g off 12 c zs ⟨#[66, 117, 102, 102, 101, 114, 77, 111, 100, 101]⟩ 4 w ht hr (show px 26 ⟨#[66, 117, 102, 102, 101, 114, 77, 111, 100, 101]⟩ = some 4 by kernel_rfl) (by decide) hnc hz
 have HG2 := Lib.hid hy2
 clear ht hr hz hy0 hy1 hy2
 show Calls Tryd.prog 44 #[.agg #[.int .i64 i, .int .i64 26, .slice (some ⟨g, off, none⟩) 12 c], .int .i64 id] w _
 go_enter Tryd.func44, Tryd.ntmps44
 go_upto_region 13 with (fail)
 refine wp_name fun W hW => ?_
 obtain ⟨B, hB⟩ : ∃ B, B = w.heap.size := ⟨_, rfl⟩
 have hbel : Below w.heap.size w W := by rw [hW.out]; exact belowBy
 have HCV : Hid (CV w W B i 26 g off 12 c [id, 0, 0, 0, 0, 0, 0]) := Lib.hid (CV.start hbel hB (by rw [hW.out, hB]; exact (heap_alloc_old _ _ (by simp; omega)).trans ((heap_alloc_old _ _ (by simp)).trans (heap_alloc_new _ _))) (by rw [hW.out, hB]; exact (heap_alloc_old _ _ (by simp)).trans (by rw [show w.heap.size + 1 = (w.alloc (.cells #[.int .i64 i, .int .i64 26, .slice (some ⟨g, off, none⟩) 12 c] 68)).heap.size by simp]; exact heap_alloc_new _ _)) (by rw [hW.out, hB]; exact heap_alloc_atN (by simp)))
 (try rw [show w.heap.size + 1 + 1 = B + 2 by omega])
 (try rw [show w.heap.size + 2 = B + 2 by omega])
 (try rw [show w.heap.size + 1 = B + 1 by omega])
 (try rw [← hB])
 clear hW hbel hB
 obtain ⟨c0, c1, c2, lB, lD⟩ := HCV.out.ins
 have e1 := HCV.out.dv.cell 1 _ rfl
 have e2 := HCV.out.dv.cell 2 _ rfl
 have e3 := HCV.out.dv.cell 3 _ rfl
 have e5 := HCV.out.dv.cell 5 _ rfl
 have e6 := HCV.out.dv.cell 6 _ rfl
 have f1 := HCV.out.dv.free 1
 have f2 := HCV.out.dv.free 2
 have f3 := HCV.out.dv.free 3
 have f5 := HCV.out.dv.free 5
 have f6 := HCV.out.dv.free 6
 clear e1 e2 e3 e5 e6 f1 f2 f3 f5 f6
 have HCD := Lib.hid (HCV.out.below (show Below W.heap.size W W.drew by exact belowBy))
 refine wp_region_held_drew (S := (fun W' => W'.cell? ⟨B, 0, none⟩ = some (.int .i64 i) ∧ W'.cell? ⟨B, 1, none⟩ = some (.int .i64 26) ∧ W'.cell? ⟨B, 2, none⟩ = some (.slice (some ⟨g, off, none⟩) 12 c) ∧ B < W'.heap.size ∧ B + 2 < W'.heap.size)) (by kernel_rfl) (HCD.out.ins) (fun hHeld => ?_)
 (try simp only [Act.put, List.setIfInBounds_toArray, List.set_cons_zero, List.set_cons_succ])
 (refine takeH (i := 0) (v := ?_) rfl (by kernel_rfl) (by kernel_rfl) (by kernel_rfl) (fun _ _ _ h => h) (Or.inl ⟨by first | kernel_rfl | rfl, ?_⟩) (by assumption) ?_; rotate_left; (focus (intro w' hSw; (try dsimp only at hSw); go_simp; try (with_reducible rfl))))
 (refine takeH (i := 1) (v := ?_) rfl (by kernel_rfl) (by kernel_rfl) (by kernel_rfl) (fun _ _ _ h => h) (Or.inl ⟨by first | kernel_rfl | rfl, ?_⟩) (by assumption) ?_; rotate_left; (focus (intro w' hSw; (try dsimp only at hSw); go_simp; try (with_reducible rfl))))
 (refine takeH (i := 2) (v := ?_) rfl (by kernel_rfl) (by kernel_rfl) (by kernel_rfl) (fun _ _ _ h => h) (Or.inl ⟨by first | kernel_rfl | rfl, ?_⟩) (by assumption) ?_; rotate_left; (focus (intro w' hSw; (try dsimp only at hSw); go_simp; try (with_reducible rfl))))
 (refine takeH (i := 3) (v := ?_) rfl (by kernel_rfl) (by kernel_rfl) (by kernel_rfl) (fun _ _ _ h => h) (Or.inl ⟨by first | kernel_rfl | rfl, ?_⟩) (by assumption) ?_; rotate_left; (focus (intro w' hSw; (try dsimp only at hSw); go_simp; try (with_reducible rfl))))
 (refine takeH (i := 4) (v := ?_) rfl (by kernel_rfl) (by kernel_rfl) (by kernel_rfl) (fun _ _ _ h => h) (Or.inl ⟨by first | kernel_rfl | rfl, ?_⟩) (by assumption) ?_; rotate_left; (focus (intro w' hSw; (try dsimp only at hSw); go_simp; try (with_reducible rfl))))
 (refine takeH (i := 6) (v := ?_) rfl (by kernel_rfl) (by kernel_rfl) (by kernel_rfl) (fun _ _ _ h => h) (Or.inl ⟨by first | kernel_rfl | rfl, ?_⟩) (by assumption) ?_; rotate_left; (focus (intro w' hSw; (try dsimp only at hSw); go_simp; try (with_reducible rfl))))
 (refine takeH (i := 8) (v := ?_) rfl (by kernel_rfl) (by kernel_rfl) (by kernel_rfl) (fun _ _ _ h => h) (Or.inl ⟨by first | kernel_rfl | rfl, ?_⟩) (by assumption) ?_; rotate_left; (focus (intro w' hSw; (try dsimp only at hSw); go_simp; try (with_reducible rfl))); (try simp only [Act.put, List.setIfInBounds_toArray, List.set_cons_zero, List.set_cons_succ]))
 refine oneH (i := 5) (by kernel_rfl) rfl (fun K hK => ?_)
 go_simp
 go_at_call 19
 refine (HG0.out _ HCD.out.old).mono ?_
 rintro e v0 ⟨rfl, hb0⟩
 have HD0 := Lib.hid (HCD.out.below hb0)
 clear hb0
 go_wp2_with fail
 refine hK.out _ _ HD0.out.ins (fun hHeld => ?_)
 clear hK K
 (try simp only [Act.put, List.setIfInBounds_toArray, List.set_cons_zero, List.set_cons_succ])
 refine oneH (i := 7) (by kernel_rfl) rfl (fun K hK => ?_)
 go_simp
 go_at_call 19
 refine (HG1.out _ HD0.out.old).mono ?_
 rintro e w2 ⟨rfl, hb1⟩
 have HD1 := Lib.hid (HD0.out.below hb1)
 clear hb1
 go_wp2_with fail
 refine hK.out _ _ HD1.out.ins (fun hHeld => ?_)
 clear hK K
 (try simp only [Act.put, List.setIfInBounds_toArray, List.set_cons_zero, List.set_cons_succ])
 have hb2 : True := trivial
 have HC2 := Lib.hid (HD1.out)
 clear c0 c1 c2 lB lD hb2 HCV
 obtain ⟨c0, c1, c2, lB, lD⟩ := HC2.out.ins
 have e1 := HC2.out.dv.cell 1 _ rfl
 have e2 := HC2.out.dv.cell 2 _ rfl
 have e3 := HC2.out.dv.cell 3 _ rfl
 have e5 := HC2.out.dv.cell 5 _ rfl
 have e6 := HC2.out.dv.cell 6 _ rfl
 have f1 := HC2.out.dv.free 1
 have f2 := HC2.out.dv.free 2
 have f3 := HC2.out.dv.free 3
 have f5 := HC2.out.dv.free 5
 have f6 := HC2.out.dv.free 6
 refine oneH (i := 9) (by kernel_rfl) rfl (fun K hK => ?_)
 go_simp
 refine hK.out _ _ (HC2.out.put 1 _).ins (fun hHeld => ?_)
 clear hK K
 (try simp only [Act.put, List.setIfInBounds_toArray, List.set_cons_zero, List.set_cons_succ])
 (refine takeH (i := 10) (v := ?_) rfl (by kernel_rfl) (by kernel_rfl) (by kernel_rfl) (fun _ _ _ h => h) (Or.inl ⟨by first | kernel_rfl | rfl, ?_⟩) (by assumption) ?_; rotate_left; (focus (intro w' hSw; (try dsimp only at hSw); go_simp; try (with_reducible rfl))); (try simp only [Act.put, List.setIfInBounds_toArray, List.set_cons_zero, List.set_cons_succ]))
 refine oneH (i := 11) (by kernel_rfl) rfl (fun K hK => ?_)
 go_simp
 refine hK.out _ _ ((HC2.out.put 1 _).put 2 _).ins (fun hHeld => ?_)
 clear hK K
 (try simp only [Act.put, List.setIfInBounds_toArray, List.set_cons_zero, List.set_cons_succ])
 (refine takeH (i := 12) (v := ?_) rfl (by kernel_rfl) (by kernel_rfl) (by kernel_rfl) (fun _ _ _ h => h) (Or.inl ⟨by first | kernel_rfl | rfl, ?_⟩) (by assumption) ?_; rotate_left; (focus (intro w' hSw; (try dsimp only at hSw); go_simp; try (with_reducible rfl))); (try simp only [Act.put, List.setIfInBounds_toArray, List.set_cons_zero, List.set_cons_succ]))
 refine oneH (i := 13) (by kernel_rfl) rfl (fun K hK => ?_)
 go_simp
 refine hK.out _ _ (((HC2.out.put 1 _).put 2 _).put 3 _).ins (fun hHeld => ?_)
 clear hK K
 (try simp only [Act.put, List.setIfInBounds_toArray, List.set_cons_zero, List.set_cons_succ])
 refine wpAnyH_done (by kernel_rfl) ?_ _
 (try simp only [Act.put, List.setIfInBounds_toArray, List.set_cons_zero, List.set_cons_succ])
 go_upto_region 18 with (fail)
 refine wp_name fun W3 hW3 => ?_
 have HH : Hid (CV w W3 B i 26 g off 12 c [id, 3, y0, y1, 0, 0, 0]) := Lib.hid (by rw [hW3.out]; exact (((HC2.out.put 1 3).put 2 y0).put 3 y1))
 clear hW3 c0 c1 c2 lB lD e1 e2 e3 e5 e6 f1 f2 f3 f5 f6 HC2
 obtain ⟨c0, c1, c2, lB, lD⟩ := HH.out.ins
 go_wp2_with fail
 refine (HG2.out _ HH.out.old).mono ?_
 rintro e w4 ⟨rfl, hb4⟩
 have HC4 := Lib.hid (HH.out.below hb4)
 clear c0 c1 c2 lB lD hb4 HH
 have e4 := HC4.out.dv.cell 4 _ rfl
 have f4 := HC4.out.dv.free 4
 have lD := HC4.out.dv.lt
 obtain ⟨mo, hmo⟩ : ∃ m : Int, (if y2 < 0 ∨ 5 < y2 then 6 else y2) = m := ⟨_, rfl⟩
 have HMO := Lib.hid hmo
 clear hmo
 have HM : Hid (∃ mm, mm = 6 ∨ mm = y2) := Lib.hid ⟨y2, .inr rfl⟩
 clear HM HMO
 by_cases h0 : y2 < 0
 rotate_left
 by_cases h5 : 5 < y2
 all_goals
  go_upto_region 23 with (fail)
  refine wp_name fun W5 hW5 => ?_
  obtain ⟨mm, HH⟩ : ∃ mm, Hid (CV w W5 B i 26 g off 12 c [id, 3, y0, y1, mm, 0, 0]) := ⟨_, Lib.hid (by rw [hW5.out]; exact HC4.out.put 4 _)⟩
  clear hW5 e4 f4 lD HC4
  obtain ⟨c0, c1, c2, lB, lD⟩ := HH.out.ins
  have e0 := HH.out.dv.cell 0 _ rfl
  have e1 := HH.out.dv.cell 1 _ rfl
  have e2 := HH.out.dv.cell 2 _ rfl
  have e3 := HH.out.dv.cell 3 _ rfl
  have e4 := HH.out.dv.cell 4 _ rfl
  have e5 := HH.out.dv.cell 5 _ rfl
  have e6 := HH.out.dv.cell 6 _ rfl
  have r0 := HH.out.rv.cell 0 _ rfl
  have r1 := HH.out.rv.cell 1 _ rfl
  have r2 := HH.out.rv.cell 2 _ rfl
  have r3 := HH.out.rv.cell 3 _ rfl
  have r4 := HH.out.rv.cell 4 _ rfl
  have r5 := HH.out.rv.cell 5 _ rfl
  have r6 := HH.out.rv.cell 6 _ rfl
  have f0 := HH.out.rv.free 0
  have f1 := HH.out.rv.free 1
  have f2 := HH.out.rv.free 2
  have f3 := HH.out.rv.free 3
  have f4 := HH.out.rv.free 4
  have f5 := HH.out.rv.free 5
  have f6 := HH.out.rv.free 6
  have lR := HH.out.rv.lt
  go_wp2
  refine bodyPost_ret (v := .agg #[.int .i64 id, .int .i64 3, .int .i64 y0, .int .i64 y1, .int .i64 mm, .int .i64 0, .int .i64 0]) (by simp [results, Tryd.results44, go_sem, r0, r1, r2, r3, r4, r5, r6, f0, f1, f2, f3, f4, f5, f6]) rfl ⟨⟨_, _, _, _, _, _, rfl⟩, HH.out.old.trans (But.below ((((((((But.refl (B + 1) _).set 0 _).set 1 _).set 2 _).set 3 _).set 4 _).set 5 _).set 6 _) _ (by have := HH.out.hw; omega) HH.out.old.size)⟩

set_option maxRecDepth 100000 in
set_option maxHeartbeats 4000000 in
theorem bcmd27 (i id : Int) (g off c : Nat) (zs : List Int) (w : World) (ht : Blanks w) (hr : Row w g zs) (hnc : 10 ≤ c ∧ c ≤ 9223372036854775807) (hz : off + 10 ≤ zs.length) : Calls Tryd.prog 44 #[insV i 27 (some ⟨g, off, none⟩) 10 c, .int .i64 id] w fun e w' => CmdV id e ∧ Below w.heap.size w w' := by
 obtain ⟨y0, hy0⟩ := bget_lit i 27 g off 10 c zs ⟨#[86, 101, 108, 111, 99, 105, 116, 121]⟩ 2 w ht hr (show px 27 ⟨#[86, 101, 108, 111, 99, 105, 116, 121]⟩ = some 2 by kernel_rfl) (by decide) hnc hz
 have HG0 := Lib.hid hy0
 clear ht hr hz hy0
 show Calls Tryd.prog 44 #[.agg #[.int .i64 i, .int .i64 27, .slice (some ⟨g, off, none⟩) 10 c], .int .i64 id] w _
 go_enter Tryd.func44, Tryd.ntmps44
 go_upto_region 15 with (fail)
 refine wp_name fun W hW => ?_
 obtain ⟨B, hB⟩ : ∃ B, B = w.heap.size := ⟨_, rfl⟩
 have hbel : Below w.heap.size w W := by rw [hW.out]; exact belowBy
 have HCV : Hid (CV w W B i 27 g off 10 c [id, 0, 0, 0, 0, 0, 0]) := Lib.hid (CV.start hbel hB (by rw [hW.out, hB]; exact (heap_alloc_old _ _ (by simp; omega)).trans ((heap_alloc_old _ _ (by simp)).trans (heap_alloc_new _ _))) (by rw [hW.out, hB]; exact (heap_alloc_old _ _ (by simp)).trans (by rw [show w.heap.size + 1 = (w.alloc (.cells #[.int .i64 i, .int .i64 27, .slice (some ⟨g, off, none⟩) 10 c] 68)).heap.size by simp]; exact heap_alloc_new _ _)) (by rw [hW.out, hB]; exact heap_alloc_atN (by simp)))
 (try rw [show w.heap.size + 1 + 1 = B + 2 by omega])
 (try rw [show w.heap.size + 2 = B + 2 by omega])
 (try rw [show w.heap.size + 1 = B + 1 by omega])
 (try rw [← hB])
 clear hW hbel hB
 obtain ⟨c0, c1, c2, lB, lD⟩ := HCV.out.ins
 have e1 := HCV.out.dv.cell 1 _ rfl
 have e2 := HCV.out.dv.cell 2 _ rfl
 have e3 := HCV.out.dv.cell 3 _ rfl
 have e5 := HCV.out.dv.cell 5 _ rfl
 have e6 := HCV.out.dv.cell 6 _ rfl
 have f1 := HCV.out.dv.free 1
 have f2 := HCV.out.dv.free 2
 have f3 := HCV.out.dv.free 3
 have f5 := HCV.out.dv.free 5
 have f6 := HCV.out.dv.free 6
 go_wp2_with fail
 refine (HG0.out _ HCV.out.old).mono ?_
 rintro e w2 ⟨rfl, hb2⟩
 have HC2 := Lib.hid (HCV.out.below hb2)
 clear c0 c1 c2 lB lD e1 e2 e3 e5 e6 f1 f2 f3 f5 f6 hb2 HCV
 obtain ⟨c0, c1, c2, lB, lD⟩ := HC2.out.ins
 have e1 := HC2.out.dv.cell 1 _ rfl
 have e2 := HC2.out.dv.cell 2 _ rfl
 have e3 := HC2.out.dv.cell 3 _ rfl
 have e5 := HC2.out.dv.cell 5 _ rfl
 have e6 := HC2.out.dv.cell 6 _ rfl
 have f1 := HC2.out.dv.free 1
 have f2 := HC2.out.dv.free 2
 have f3 := HC2.out.dv.free 3
 have f5 := HC2.out.dv.free 5
 have f6 := HC2.out.dv.free 6
 go_upto_region 18 with (fail)
 refine wp_name fun W3 hW3 => ?_
 have HH : Hid (CV w W3 B i 27 g off 10 c [id, 4, 0, y0, 0, 0, 0]) := Lib.hid (by rw [hW3.out]; exact ((HC2.out.put 1 4).put 3 y0))
 clear hW3 c0 c1 c2 lB lD e1 e2 e3 e5 e6 f1 f2 f3 f5 f6 HC2
 obtain ⟨c0, c1, c2, lB, lD⟩ := HH.out.ins
 have e0 := HH.out.dv.cell 0 _ rfl
 have e1 := HH.out.dv.cell 1 _ rfl
 have e2 := HH.out.dv.cell 2 _ rfl
 have e3 := HH.out.dv.cell 3 _ rfl
 have e4 := HH.out.dv.cell 4 _ rfl
 have e5 := HH.out.dv.cell 5 _ rfl
 have e6 := HH.out.dv.cell 6 _ rfl
 have r0 := HH.out.rv.cell 0 _ rfl
 have r1 := HH.out.rv.cell 1 _ rfl
 have r2 := HH.out.rv.cell 2 _ rfl
 have r3 := HH.out.rv.cell 3 _ rfl
 have r4 := HH.out.rv.cell 4 _ rfl
 have r5 := HH.out.rv.cell 5 _ rfl
 have r6 := HH.out.rv.cell 6 _ rfl
 have f0 := HH.out.rv.free 0
 have f1 := HH.out.rv.free 1
 have f2 := HH.out.rv.free 2
 have f3 := HH.out.rv.free 3
 have f4 := HH.out.rv.free 4
 have f5 := HH.out.rv.free 5
 have f6 := HH.out.rv.free 6
 have lR := HH.out.rv.lt
 go_wp2
 refine bodyPost_ret (v := .agg #[.int .i64 id, .int .i64 4, .int .i64 0, .int .i64 y0, .int .i64 0, .int .i64 0, .int .i64 0]) (by simp [results, Tryd.results44, go_sem, r0, r1, r2, r3, r4, r5, r6, f0, f1, f2, f3, f4, f5, f6]) rfl ⟨⟨_, _, _, _, _, _, rfl⟩, HH.out.old.trans (But.below ((((((((But.refl (B + 1) _).set 0 _).set 1 _).set 2 _).set 3 _).set 4 _).set 5 _).set 6 _) _ (by have := HH.out.hw; omega) HH.out.old.size)⟩

set_option maxRecDepth 100000 in
set_option maxHeartbeats 4000000 in
theorem bcmd28 (i id : Int) (g off c : Nat) (zs : List Int) (w : World) (ht : Blanks w) (hr : Row w g zs) (hnc : 12 ≤ c ∧ c ≤ 9223372036854775807) (hz : off + 12 ≤ zs.length) : Calls Tryd.prog 44 #[insV i 28 (some ⟨g, off, none⟩) 12 c, .int .i64 id] w fun e w' => CmdV id e ∧ Below w.heap.size w w' := by
 obtain ⟨y0, hy0⟩ := bget_lit i 28 g off 12 c zs ⟨#[77, 97, 115, 116, 101, 114]⟩ 2 w ht hr (show px 28 ⟨#[77, 97, 115, 116, 101, 114]⟩ = some 2 by kernel_rfl) (by decide) hnc hz
 have HG0 := Lib.hid hy0
 obtain ⟨y1, hy1⟩ := bget_lit i 28 g off 12 c zs ⟨#[78, 117, 109, 101, 114, 97, 116, 111, 114]⟩ 3 w ht hr (show px 28 ⟨#[78, 117, 109, 101, 114, 97, 116, 111, 114]⟩ = some 3 by kernel_rfl) (by decide) hnc hz
 have HG1 := Lib.hid hy1
 obtain ⟨y2, hy2⟩ := bget_lit i 28 g off 12 c zs ⟨#[68, 101, 110, 111, 109, 105, 110, 97, 116, 111, 114]⟩ 4 w ht hr (show px 28 ⟨#[68, 101, 110, 111, 109, 105, 110, 97, 116, 111, 114]⟩ = some 4 by kernel_rfl) (by decide) hnc hz
 have HG2 := Lib.hid hy2
 clear ht hr hz hy0 hy1 hy2
 show Calls Tryd.prog 44 #[.agg #[.int .i64 i, .int .i64 28, .slice (some ⟨g, off, none⟩) 12 c], .int .i64 id] w _
 go_enter Tryd.func44, Tryd.ntmps44
 go_upto_region 17 with (fail)
 refine wp_name fun W hW => ?_
 obtain ⟨B, hB⟩ : ∃ B, B = w.heap.size := ⟨_, rfl⟩
 have hbel : Below w.heap.size w W := by rw [hW.out]; exact belowBy
 have HCV : Hid (CV w W B i 28 g off 12 c [id, 0, 0, 0, 0, 0, 0]) := Lib.hid (CV.start hbel hB (by rw [hW.out, hB]; exact (heap_alloc_old _ _ (by simp; omega)).trans ((heap_alloc_old _ _ (by simp)).trans (heap_alloc_new _ _))) (by rw [hW.out, hB]; exact (heap_alloc_old _ _ (by simp)).trans (by rw [show w.heap.size + 1 = (w.alloc (.cells #[.int .i64 i, .int .i64 28, .slice (some ⟨g, off, none⟩) 12 c] 68)).heap.size by simp]; exact heap_alloc_new _ _)) (by rw [hW.out, hB]; exact heap_alloc_atN (by simp)))
 (try rw [show w.heap.size + 1 + 1 = B + 2 by omega])
 (try rw [show w.heap.size + 2 = B + 2 by omega])
 (try rw [show w.heap.size + 1 = B + 1 by omega])
 (try rw [← hB])
 clear hW hbel hB
 obtain ⟨c0, c1, c2, lB, lD⟩ := HCV.out.ins
 have e1 := HCV.out.dv.cell 1 _ rfl
 have e2 := HCV.out.dv.cell 2 _ rfl
 have e3 := HCV.out.dv.cell 3 _ rfl
 have e5 := HCV.out.dv.cell 5 _ rfl
 have e6 := HCV.out.dv.cell 6 _ rfl
 have f1 := HCV.out.dv.free 1
 have f2 := HCV.out.dv.free 2
 have f3 := HCV.out.dv.free 3
 have f5 := HCV.out.dv.free 5
 have f6 := HCV.out.dv.free 6
 clear e1 e2 e3 e5 e6 f1 f2 f3 f5 f6
 have HCD := Lib.hid (HCV.out.below (show Below W.heap.size W W.drew by exact belowBy))
 refine wp_region_held_drew (S := (fun W' => W'.cell? ⟨B, 0, none⟩ = some (.int .i64 i) ∧ W'.cell? ⟨B, 1, none⟩ = some (.int .i64 28) ∧ W'.cell? ⟨B, 2, none⟩ = some (.slice (some ⟨g, off, none⟩) 12 c) ∧ B < W'.heap.size ∧ B + 2 < W'.heap.size)) (by kernel_rfl) (HCD.out.ins) (fun hHeld => ?_)
 (try simp only [Act.put, List.setIfInBounds_toArray, List.set_cons_zero, List.set_cons_succ])
 (refine takeH (i := 0) (v := ?_) rfl (by kernel_rfl) (by kernel_rfl) (by kernel_rfl) (fun _ _ _ h => h) (Or.inl ⟨by first | kernel_rfl | rfl, ?_⟩) (by assumption) ?_; rotate_left; (focus (intro w' hSw; (try dsimp only at hSw); go_simp; try (with_reducible rfl))))
 (refine takeH (i := 2) (v := ?_) rfl (by kernel_rfl) (by kernel_rfl) (by kernel_rfl) (fun _ _ _ h => h) (Or.inl ⟨by first | kernel_rfl | rfl, ?_⟩) (by assumption) ?_; rotate_left; (focus (intro w' hSw; (try dsimp only at hSw); go_simp; try (with_reducible rfl))))
 (refine takeH (i := 4) (v := ?_) rfl (by kernel_rfl) (by kernel_rfl) (by kernel_rfl) (fun _ _ _ h => h) (Or.inl ⟨by first | kernel_rfl | rfl, ?_⟩) (by assumption) ?_; rotate_left; (focus (intro w' hSw; (try dsimp only at hSw); go_simp; try (with_reducible rfl))))
 (refine takeH (i := 6) (v := ?_) rfl (by kernel_rfl) (by kernel_rfl) (by kernel_rfl) (fun _ _ _ h => h) (Or.inl ⟨by first | kernel_rfl | rfl, ?_⟩) (by assumption) ?_; rotate_left; (focus (intro w' hSw; (try dsimp only at hSw); go_simp; try (with_reducible rfl))); (try simp only [Act.put, List.setIfInBounds_toArray, List.set_cons_zero, List.set_cons_succ]))
 refine oneH (i := 1) (by kernel_rfl) rfl (fun K hK => ?_)
 go_simp
 go_at_call 19
 refine (HG0.out _ HCD.out.old).mono ?_
 rintro e v0 ⟨rfl, hb0⟩
 have HD0 := Lib.hid (HCD.out.below hb0)
 clear hb0
 go_wp2_with fail
 refine hK.out _ _ HD0.out.ins (fun hHeld => ?_)
 clear hK K
 (try simp only [Act.put, List.setIfInBounds_toArray, List.set_cons_zero, List.set_cons_succ])
 refine oneH (i := 3) (by kernel_rfl) rfl (fun K hK => ?_)
 go_simp
 go_at_call 19
 refine (HG1.out _ HD0.out.old).mono ?_
 rintro e v1 ⟨rfl, hb1⟩
 have HD1 := Lib.hid (HD0.out.below hb1)
 clear hb1
 go_wp2_with fail
 refine hK.out _ _ HD1.out.ins (fun hHeld => ?_)
 clear hK K
 (try simp only [Act.put, List.setIfInBounds_toArray, List.set_cons_zero, List.set_cons_succ])
 refine oneH (i := 5) (by kernel_rfl) rfl (fun K hK => ?_)
 go_simp
 go_at_call 19
 refine (HG2.out _ HD1.out.old).mono ?_
 rintro e w2 ⟨rfl, hb2⟩
 have HD2 := Lib.hid (HD1.out.below hb2)
 clear hb2
 go_wp2_with fail
 refine hK.out _ _ HD2.out.ins (fun hHeld => ?_)
 clear hK K
 (try simp only [Act.put, List.setIfInBounds_toArray, List.set_cons_zero, List.set_cons_succ])
 have hb2 : True := trivial
 have HC2 := Lib.hid (HD2.out)
 clear c0 c1 c2 lB lD hb2 HCV
 obtain ⟨c0, c1, c2, lB, lD⟩ := HC2.out.ins
 have e1 := HC2.out.dv.cell 1 _ rfl
 have e2 := HC2.out.dv.cell 2 _ rfl
 have e3 := HC2.out.dv.cell 3 _ rfl
 have e5 := HC2.out.dv.cell 5 _ rfl
 have e6 := HC2.out.dv.cell 6 _ rfl
 have f1 := HC2.out.dv.free 1
 have f2 := HC2.out.dv.free 2
 have f3 := HC2.out.dv.free 3
 have f5 := HC2.out.dv.free 5
 have f6 := HC2.out.dv.free 6
 refine oneH (i := 7) (by kernel_rfl) rfl (fun K hK => ?_)
 go_simp
 refine hK.out _ _ (HC2.out.put 1 _).ins (fun hHeld => ?_)
 clear hK K
 (try simp only [Act.put, List.setIfInBounds_toArray, List.set_cons_zero, List.set_cons_succ])
 (refine takeH (i := 8) (v := ?_) rfl (by kernel_rfl) (by kernel_rfl) (by kernel_rfl) (fun _ _ _ h => h) (Or.inl ⟨by first | kernel_rfl | rfl, ?_⟩) (by assumption) ?_; rotate_left; (focus (intro w' hSw; (try dsimp only at hSw); go_simp; try (with_reducible rfl))); (try simp only [Act.put, List.setIfInBounds_toArray, List.set_cons_zero, List.set_cons_succ]))
 refine oneH (i := 9) (by kernel_rfl) rfl (fun K hK => ?_)
 go_simp
 refine hK.out _ _ ((HC2.out.put 1 _).put 2 _).ins (fun hHeld => ?_)
 clear hK K
 (try simp only [Act.put, List.setIfInBounds_toArray, List.set_cons_zero, List.set_cons_succ])
 (refine takeH (i := 10) (v := ?_) rfl (by kernel_rfl) (by kernel_rfl) (by kernel_rfl) (fun _ _ _ h => h) (Or.inl ⟨by first | kernel_rfl | rfl, ?_⟩) (by assumption) ?_; rotate_left; (focus (intro w' hSw; (try dsimp only at hSw); go_simp; try (with_reducible rfl))); (try simp only [Act.put, List.setIfInBounds_toArray, List.set_cons_zero, List.set_cons_succ]))
 refine oneH (i := 11) (by kernel_rfl) rfl (fun K hK => ?_)
 go_simp
 refine hK.out _ _ (((HC2.out.put 1 _).put 2 _).put 5 _).ins (fun hHeld => ?_)
 clear hK K
 (try simp only [Act.put, List.setIfInBounds_toArray, List.set_cons_zero, List.set_cons_succ])
 (refine takeH (i := 12) (v := ?_) rfl (by kernel_rfl) (by kernel_rfl) (by kernel_rfl) (fun _ _ _ h => h) (Or.inl ⟨by first | kernel_rfl | rfl, ?_⟩) (by assumption) ?_; rotate_left; (focus (intro w' hSw; (try dsimp only at hSw); go_simp; try (with_reducible rfl))); (try simp only [Act.put, List.setIfInBounds_toArray, List.set_cons_zero, List.set_cons_succ]))
 refine oneH (i := 13) (by kernel_rfl) rfl (fun K hK => ?_)
 go_simp
 refine hK.out _ _ ((((HC2.out.put 1 _).put 2 _).put 5 _).put 6 _).ins (fun hHeld => ?_)
 clear hK K
 (try simp only [Act.put, List.setIfInBounds_toArray, List.set_cons_zero, List.set_cons_succ])
 refine wpAnyH_done (by kernel_rfl) ?_ _
 (try simp only [Act.put, List.setIfInBounds_toArray, List.set_cons_zero, List.set_cons_succ])
 go_upto_region 18 with (fail)
 refine wp_name fun W3 hW3 => ?_
 have HH : Hid (CV w W3 B i 28 g off 12 c [id, 8, y0, 0, 0, y1, y2]) := Lib.hid (by rw [hW3.out]; exact ((((HC2.out.put 1 8).put 2 y0).put 5 y1).put 6 y2))
 clear hW3 c0 c1 c2 lB lD e1 e2 e3 e5 e6 f1 f2 f3 f5 f6 HC2
 obtain ⟨c0, c1, c2, lB, lD⟩ := HH.out.ins
 have e0 := HH.out.dv.cell 0 _ rfl
 have e1 := HH.out.dv.cell 1 _ rfl
 have e2 := HH.out.dv.cell 2 _ rfl
 have e3 := HH.out.dv.cell 3 _ rfl
 have e4 := HH.out.dv.cell 4 _ rfl
 have e5 := HH.out.dv.cell 5 _ rfl
 have e6 := HH.out.dv.cell 6 _ rfl
 have r0 := HH.out.rv.cell 0 _ rfl
 have r1 := HH.out.rv.cell 1 _ rfl
 have r2 := HH.out.rv.cell 2 _ rfl
 have r3 := HH.out.rv.cell 3 _ rfl
 have r4 := HH.out.rv.cell 4 _ rfl
 have r5 := HH.out.rv.cell 5 _ rfl
 have r6 := HH.out.rv.cell 6 _ rfl
 have f0 := HH.out.rv.free 0
 have f1 := HH.out.rv.free 1
 have f2 := HH.out.rv.free 2
 have f3 := HH.out.rv.free 3
 have f4 := HH.out.rv.free 4
 have f5 := HH.out.rv.free 5
 have f6 := HH.out.rv.free 6
 have lR := HH.out.rv.lt
 go_wp2
 refine bodyPost_ret (v := .agg #[.int .i64 id, .int .i64 8, .int .i64 y0, .int .i64 0, .int .i64 0, .int .i64 y1, .int .i64 y2]) (by simp [results, Tryd.results44, go_sem, r0, r1, r2, r3, r4, r5, r6, f0, f1, f2, f3, f4, f5, f6]) rfl ⟨⟨_, _, _, _, _, _, rfl⟩, HH.out.old.trans (But.below ((((((((But.refl (B + 1) _).set 0 _).set 1 _).set 2 _).set 3 _).set 4 _).set 5 _).set 6 _) _ (by have := HH.out.hw; omega) HH.out.old.size)⟩

end Go.Proofs.YtknnhnefbbjcdaaDoor

namespace Go.Proofs.YtknnhnefbbjcdaaDoor
open Go.RowKit
set_option linter.unusedVariables false
set_option linter.unusedSimpArgs false
attribute [local go_sem] ite_max ite_min vite_max vite_min ext_cell ext_frozen

theorem owns_buts {P : Nat → Prop} {w w' : World} {base size : Nat} {e : TypeId} {v : Value} {n : Nat} {xs : List Value} (h : w.ownsRow base e size v n xs) (hb : Buts P w w') (hn : ∀ b, v.ownBlock = some b → ¬ P b) : w'.ownsRow base e size v n xs := by
 obtain ⟨h1, h2⟩ := h
 refine ⟨h1, ?_⟩
 rcases h2 with h2 | ⟨g, cap, cur, hv, hg, hh, r⟩
 ·exact Or.inl h2
 ·exact Or.inr ⟨g, cap, cur, hv, hg, by rw [hb.blk g (Array.getElem?_eq_some_iff.1 hh).1 (hn g (by rw [hv]; rfl))]; exact hh, r⟩
structure GS (w0 w W : World) (g K qi qk ax n : Nat) (V : Nat → Value) (sh : Value) (m : Nat) (nx : Int) (zs : List Int) : Prop where
 row : Row W g zs
 len : zs.length = n
 k0 : W.cell? ⟨K, 0, none⟩ = w.cell? ⟨K, 0, none⟩
 k1 : W.cell? ⟨K, 1, none⟩ = some (.int .i64 nx)
 k2 : W.cell? ⟨K, 2, none⟩ = some (.slice (some ⟨qi, 0, none⟩) ax ax)
 k3 : W.cell? ⟨K, 3, none⟩ = some sh
 k4 : W.cell? ⟨K, 4, none⟩ = some (.int .i64 (ax : Int))
 k5 : W.cell? ⟨K, 5, none⟩ = some (.slice (some ⟨qk, 0, none⟩) ax ax)
 kf : ∀ o, W.frozen? ⟨K, o, none⟩ = false
 qf : ∀ o, W.frozen? ⟨qi, o, none⟩ = false
 bf : ∀ o, W.frozen? ⟨qk, o, none⟩ = false
 ib : ∀ i r, i < ax → (r = 0 ∨ r = 7 ∨ r = 8) → ∃ b, W.cell? ⟨qi, i * 12 + r, none⟩ = some (.bool b)
 i9 : ∀ i, i < ax → ∃ z, W.cell? ⟨qi, i * 12 + 9, none⟩ = some (.int .i64 z)
 i11 : ∀ i, i < ax → W.cell? ⟨qi, i * 12 + 11, none⟩ = some (V i)
 kb : ∀ i, i < ax → ∃ b, W.cell? ⟨qk, i, none⟩ = some (.bool b)
 own : ∀ i, i < ax → ∃ q xs, q ≤ m ∧ W.ownsRow w.heap.size 50 7 (V i) q xs
 osh : ∃ q xs, q ≤ m ∧ W.ownsRow w.heap.size 98 3 sh q xs
 ap1 : ∀ i j b, i < ax → j < ax → i ≠ j → (V i).ownBlock = some b → (V j).ownBlock ≠ some b
 ap2 : ∀ i b, i < ax → (V i).ownBlock = some b → sh.ownBlock ≠ some b
 lt : g < w.heap.size ∧ K < w.heap.size ∧ qi < w.heap.size ∧ qk < w.heap.size
 ne : K ≠ g ∧ qi ≠ g ∧ qk ≠ g ∧ K ≠ qi ∧ K ≠ qk ∧ qi ≠ qk
 low : w0.heap.size ≤ g ∧ w0.heap.size ≤ K ∧ w0.heap.size ≤ qi ∧ w0.heap.size ≤ qk
 buts : Buts (fun b => b = g ∨ b = K ∨ b = qi ∨ b = qk) w W
 old : Below w0.heap.size w0 w
section
variable {w0 w W W' : World} {g K qi qk ax n m : Nat} {V : Nat → Value} {sh : Value} {nx : Int} {zs zs' : List Int}
theorem GS.size (h : GS w0 w W g K qi qk ax n V sh m nx zs) : w.heap.size ≤ W.heap.size := h.buts.size
theorem GS.oldW (h : GS w0 w W g K qi qk ax n V sh m nx zs) : Below w0.heap.size w0 W :=
 h.old.trans (h.buts.below _ (fun b hb => by have := h.low; omega) h.old.size)
theorem GS.lts (h : GS w0 w W g K qi qk ax n V sh m nx zs) : g < W.heap.size ∧ K < W.heap.size ∧ qi < W.heap.size ∧ qk < W.heap.size := by
 obtain ⟨h1, h2, h3, h4⟩ := h.lt
 have := h.size
 exact ⟨by omega, by omega, by omega, by omega⟩
theorem GS.ownV (h : GS w0 w W g K qi qk ax n V sh m nx zs) {i b : Nat} (hi : i < ax) (hb : (V i).ownBlock = some b) : w.heap.size ≤ b ∧ b < W.heap.size := by
 obtain ⟨q, xs, -, ho⟩ := h.own i hi
 exact ho.lt b hb
theorem GS.ownS (h : GS w0 w W g K qi qk ax n V sh m nx zs) {b : Nat} (hb : sh.ownBlock = some b) : w.heap.size ≤ b ∧ b < W.heap.size := by
 obtain ⟨q, xs, -, ho⟩ := h.osh
 exact ho.lt b hb
theorem GS.next (h : GS w0 w W g K qi qk ax n V sh m nx zs) (hb : But g W W') (hr : Row W' g zs') (hl : zs'.length = zs.length) : GS w0 w W' g K qi qk ax n V sh m nx zs' := by
 obtain ⟨l1, l2, l3, l4⟩ := h.lts
 obtain ⟨n1, n2, n3, n4, n5, n6⟩ := h.ne
 obtain ⟨b1, b2, b3, b4⟩ := h.lt
 have hB : Buts (fun b => b = g) W W' := Buts.of_but hb rfl
 exact ⟨hr, hl.trans h.len, (hb.cell K 0 l2 n1).trans h.k0, (hb.cell K 1 l2 n1).trans h.k1, (hb.cell K 2 l2 n1).trans h.k2, (hb.cell K 3 l2 n1).trans h.k3, (hb.cell K 4 l2 n1).trans h.k4, (hb.cell K 5 l2 n1).trans h.k5,
  fun o => (hb.froz K o l2 n1).trans (h.kf o), fun o => (hb.froz qi o l3 n2).trans (h.qf o), fun o => (hb.froz qk o l4 n3).trans (h.bf o),
  fun i r hi hr => (h.ib i r hi hr).imp fun b hv => (hb.cell qi _ l3 n2).trans hv, fun i hi => (h.i9 i hi).imp fun b hv => (hb.cell qi _ l3 n2).trans hv, fun i hi => (hb.cell qi _ l3 n2).trans (h.i11 i hi), fun i hi => (h.kb i hi).imp fun b hv => (hb.cell qk _ l4 n3).trans hv,
  fun i hi => (h.own i hi).imp fun q hq => hq.imp fun xs ⟨h1, h2⟩ => ⟨h1, owns_buts h2 hB fun b hb' e => by have := (h2.lt b hb').1; omega⟩,
  h.osh.imp fun q hq => hq.imp fun xs ⟨h1, h2⟩ => ⟨h1, owns_buts h2 hB fun b hb' e => by have := (h2.lt b hb').1; omega⟩,
  h.ap1, h.ap2, h.lt, h.ne, h.low, h.buts.trans (Buts.of_but hb (.inl rfl)), h.old⟩
theorem GS.below (h : GS w0 w W g K qi qk ax n V sh m nx zs) (hb : Below W.heap.size W W') : GS w0 w W' g K qi qk ax n V sh m nx zs := h.next (But.of_below hb) (h.row.below hb) rfl
theorem GS.put (h : GS w0 w W g K qi qk ax n V sh m nx zs) (k : Nat) (v : Int) : GS w0 w (W.setCell ⟨g, k, none⟩ (.int .i64 v)) g K qi qk ax n V sh m nx (zs.set k v) := h.next ((But.refl g W).set k _) (h.row.set k v) (by simp)
theorem GS.more (h : GS w0 w W g K qi qk ax n V sh m nx zs) {m' : Nat} (hm : m ≤ m') : GS w0 w W g K qi qk ax n V sh m' nx zs :=
 { h with own := fun i hi => (h.own i hi).imp fun q hq => hq.imp fun xs ⟨h1, h2⟩ => ⟨by omega, h2⟩, osh := h.osh.imp fun q hq => hq.imp fun xs ⟨h1, h2⟩ => ⟨by omega, h2⟩ }
theorem cell_put {b o o' : Nat} {v u : Value} (hu : W.cell? ⟨b, o', none⟩ = some u) (hf : W.frozen? ⟨b, o, none⟩ = false) (hl : b < W.heap.size) : (W.setCell ⟨b, o, none⟩ v).cell? ⟨b, o', none⟩ = some (if o = o' then v else u) := by
 by_cases he : o = o'
 ·subst he
  rw [if_pos rfl]
  go_simp
 ·rw [if_neg he, World.cell?_setCell_other _ _ _ _ (fun e => by injection e with e1 e2; exact he e2)]
  exact hu
theorem froz_put {b o o' : Nat} {v : Value} : (W.setCell ⟨b, o, none⟩ v).frozen? ⟨b, o', none⟩ = W.frozen? ⟨b, o', none⟩ := by go_simp
theorem GS.putK (h : GS w0 w W g K qi qk ax n V sh m nx zs) (v : Int) : GS w0 w (W.setCell ⟨K, 1, none⟩ (.int .i64 v)) g K qi qk ax n V sh m v zs := by
 obtain ⟨l1, l2, l3, l4⟩ := h.lts
 obtain ⟨n1, n2, n3, n4, n5, n6⟩ := h.ne
 obtain ⟨b1, b2, b3, b4⟩ := h.lt
 have hb : But K W (W.setCell ⟨K, 1, none⟩ (.int .i64 v)) := (But.refl K W).set 1 _
 have hB : Buts (fun b => b = K) W (W.setCell ⟨K, 1, none⟩ (.int .i64 v)) := Buts.of_but hb rfl
 have hk : ∀ j u, W.cell? ⟨K, j, none⟩ = some u → (W.setCell ⟨K, 1, none⟩ (.int .i64 v)).cell? ⟨K, j, none⟩ = some (if 1 = j then .int .i64 v else u) := fun j u hu => cell_put hu (h.kf 1) l2
 exact ⟨row_but h.row hb (Ne.symm n1), h.len, (World.cell?_setCell_other _ _ _ _ (fun e => by injection e with e1 e2; omega)).trans h.k0, hk 1 _ h.k1, hk 2 _ h.k2, hk 3 _ h.k3, hk 4 _ h.k4, hk 5 _ h.k5,
  fun o => froz_put.trans (h.kf o), fun o => (hb.froz qi o l3 (Ne.symm n4)).trans (h.qf o), fun o => (hb.froz qk o l4 (Ne.symm n5)).trans (h.bf o),
  fun i r hi hr => (h.ib i r hi hr).imp fun b hv => (hb.cell qi _ l3 (Ne.symm n4)).trans hv, fun i hi => (h.i9 i hi).imp fun b hv => (hb.cell qi _ l3 (Ne.symm n4)).trans hv, fun i hi => (hb.cell qi _ l3 (Ne.symm n4)).trans (h.i11 i hi), fun i hi => (h.kb i hi).imp fun b hv => (hb.cell qk _ l4 (Ne.symm n5)).trans hv,
  fun i hi => (h.own i hi).imp fun q hq => hq.imp fun xs ⟨h1, h2⟩ => ⟨h1, owns_buts h2 hB fun b hb' e => by have := (h2.lt b hb').1; omega⟩,
  h.osh.imp fun q hq => hq.imp fun xs ⟨h1, h2⟩ => ⟨h1, owns_buts h2 hB fun b hb' e => by have := (h2.lt b hb').1; omega⟩,
  h.ap1, h.ap2, h.lt, h.ne, h.low, h.buts.trans (Buts.of_but hb (.inr (.inl rfl))), h.old⟩
theorem GS.putB (h : GS w0 w W g K qi qk ax n V sh m nx zs) (k : Nat) (v : Bool) : GS w0 w (W.setCell ⟨qk, k, none⟩ (.bool v)) g K qi qk ax n V sh m nx zs := by
 obtain ⟨l1, l2, l3, l4⟩ := h.lts
 obtain ⟨n1, n2, n3, n4, n5, n6⟩ := h.ne
 obtain ⟨b1, b2, b3, b4⟩ := h.lt
 have hb : But qk W (W.setCell ⟨qk, k, none⟩ (.bool v)) := (But.refl qk W).set k _
 have hB : Buts (fun b => b = qk) W (W.setCell ⟨qk, k, none⟩ (.bool v)) := Buts.of_but hb rfl
 refine ⟨row_but h.row hb (Ne.symm n3), h.len, (hb.cell K 0 l2 n5).trans h.k0, (hb.cell K 1 l2 n5).trans h.k1, (hb.cell K 2 l2 n5).trans h.k2, (hb.cell K 3 l2 n5).trans h.k3, (hb.cell K 4 l2 n5).trans h.k4, (hb.cell K 5 l2 n5).trans h.k5,
  fun o => (hb.froz K o l2 n5).trans (h.kf o), fun o => (hb.froz qi o l3 n6).trans (h.qf o), fun o => froz_put.trans (h.bf o),
  fun i r hi hr => (h.ib i r hi hr).imp fun b hv => (hb.cell qi _ l3 n6).trans hv, fun i hi => (h.i9 i hi).imp fun b hv => (hb.cell qi _ l3 n6).trans hv, fun i hi => (hb.cell qi _ l3 n6).trans (h.i11 i hi), fun i hi => ?_,
  fun i hi => (h.own i hi).imp fun q hq => hq.imp fun xs ⟨h1, h2⟩ => ⟨h1, owns_buts h2 hB fun b hb' e => by have := (h2.lt b hb').1; omega⟩,
  h.osh.imp fun q hq => hq.imp fun xs ⟨h1, h2⟩ => ⟨h1, owns_buts h2 hB fun b hb' e => by have := (h2.lt b hb').1; omega⟩,
  h.ap1, h.ap2, h.lt, h.ne, h.low, h.buts.trans (Buts.of_but hb (.inr (.inr (.inr rfl)))), h.old⟩
 obtain ⟨b, hv⟩ := h.kb i hi
 have := cell_put (v := .bool v) hv (h.bf k) l4
 by_cases he : k = i
 ·exact ⟨v, by rw [this, if_pos he]⟩
 ·exact ⟨b, by rw [this, if_neg he]⟩
theorem GS.putQ (h : GS w0 w W g K qi qk ax n V sh m nx zs) (k r : Nat) (v : Value) (hv : ((r = 0 ∨ r = 7 ∨ r = 8) ∧ ∃ b, v = .bool b) ∨ (r = 9 ∧ ∃ z, v = .int .i64 z)) : GS w0 w (W.setCell ⟨qi, k * 12 + r, none⟩ v) g K qi qk ax n V sh m nx zs := by
 obtain ⟨l1, l2, l3, l4⟩ := h.lts
 obtain ⟨n1, n2, n3, n4, n5, n6⟩ := h.ne
 obtain ⟨b1, b2, b3, b4⟩ := h.lt
 have hb : But qi W (W.setCell ⟨qi, k * 12 + r, none⟩ v) := (But.refl qi W).set _ _
 have hB : Buts (fun b => b = qi) W (W.setCell ⟨qi, k * 12 + r, none⟩ v) := Buts.of_but hb rfl
 have hr12 : r < 12 ∧ r ≠ 11 := by rcases hv with ⟨h, -⟩ | ⟨h, -⟩ <;> omega
 refine ⟨row_but h.row hb (Ne.symm n2), h.len, (hb.cell K 0 l2 n4).trans h.k0, (hb.cell K 1 l2 n4).trans h.k1, (hb.cell K 2 l2 n4).trans h.k2, (hb.cell K 3 l2 n4).trans h.k3, (hb.cell K 4 l2 n4).trans h.k4, (hb.cell K 5 l2 n4).trans h.k5,
  fun o => (hb.froz K o l2 n4).trans (h.kf o), fun o => froz_put.trans (h.qf o), fun o => (hb.froz qk o l4 (Ne.symm n6)).trans (h.bf o),
  fun i s hi hs => ?_, fun i hi => ?_, fun i hi => ?_, fun i hi => (h.kb i hi).imp fun b hv => (hb.cell qk _ l4 (Ne.symm n6)).trans hv,
  fun i hi => (h.own i hi).imp fun q hq => hq.imp fun xs ⟨h1, h2⟩ => ⟨h1, owns_buts h2 hB fun b hb' e => by have := (h2.lt b hb').1; omega⟩,
  h.osh.imp fun q hq => hq.imp fun xs ⟨h1, h2⟩ => ⟨h1, owns_buts h2 hB fun b hb' e => by have := (h2.lt b hb').1; omega⟩,
  h.ap1, h.ap2, h.lt, h.ne, h.low, h.buts.trans (Buts.of_but hb (.inr (.inr (.inl rfl)))), h.old⟩
 ·obtain ⟨b, hc⟩ := h.ib i s hi hs
  have := cell_put (v := v) hc (h.qf (k * 12 + r)) l3
  by_cases he : k * 12 + r = i * 12 + s
  ·rw [if_pos he] at this
   rcases hv with ⟨-, b', rfl⟩ | ⟨h9, -⟩
   ·exact ⟨b', this⟩
   ·omega
  ·rw [if_neg he] at this
   exact ⟨b, this⟩
 ·obtain ⟨z, hc⟩ := h.i9 i hi
  have := cell_put (v := v) hc (h.qf (k * 12 + r)) l3
  by_cases he : k * 12 + r = i * 12 + 9
  ·rw [if_pos he] at this
   rcases hv with ⟨h9, -⟩ | ⟨-, z', rfl⟩
   ·omega
   ·exact ⟨z', this⟩
  ·rw [if_neg he] at this
   exact ⟨z, this⟩
 ·rw [cell_put (h.i11 i hi) (h.qf _) l3, if_neg (by omega)]
theorem GS.asked (h : GS w0 w W g K qi qk ax n V sh m nx zs) {k hh q cap : Nat} {xs : List Value} {W2 : World} (hk : k < ax) (hb : Buts (fun b => (V k).ownBlock = some b) W W2) (hown : W2.ownsRow w.heap.size 50 7 (.slice (some ⟨hh, 0, none⟩) q cap) q xs) (hq : q ≤ m + 1) (hat : (V k).ownBlock = some hh ∨ W.heap.size ≤ hh) :
  GS w0 w (W2.setCell ⟨qi, k * 12 + 11, none⟩ (.slice (some ⟨hh, 0, none⟩) q cap)) g K qi qk ax n (fun i => if i = k then .slice (some ⟨hh, 0, none⟩) q cap else V i) sh (m + 1) nx zs := by
 obtain ⟨l1, l2, l3, l4⟩ := h.lts
 obtain ⟨n1, n2, n3, n4, n5, n6⟩ := h.ne
 obtain ⟨b1, b2, b3, b4⟩ := h.lt
 have hs2 := hb.size
 have hsz := h.size
 have hV : ∀ b, (V k).ownBlock = some b → w.heap.size ≤ b ∧ b < W.heap.size := fun b hb' => h.ownV hk hb'
 have hP : ∀ b, b < w.heap.size → ¬ (V k).ownBlock = some b := fun b hb' e => by have := (hV b e).1; omega
 have hc : ∀ b o, b < w.heap.size → W2.cell? ⟨b, o, none⟩ = W.cell? ⟨b, o, none⟩ := fun b o hb' => hb.cell b o (by omega) (hP b hb')
 have hf : ∀ b o, b < w.heap.size → W2.frozen? ⟨b, o, none⟩ = W.frozen? ⟨b, o, none⟩ := fun b o hb' => hb.froz b o (by omega) (hP b hb')
 have hhw : w.heap.size ≤ hh := (hown.lt hh rfl).1
 obtain ⟨v, hv⟩ : ∃ v : Value, v = .slice (some ⟨hh, 0, none⟩) q cap := ⟨_, rfl⟩
 have hvo : v.ownBlock = some hh := by rw [hv]; rfl
 rw [← hv] at hown ⊢
 have hb3 : But qi W2 (W2.setCell ⟨qi, k * 12 + 11, none⟩ v) := (But.refl qi W2).set _ _
 have hB3 : Buts (fun b => b = qi) W2 (W2.setCell ⟨qi, k * 12 + 11, none⟩ v) := Buts.of_but hb3 rfl
 have hc3 : ∀ b o, b < w.heap.size → b ≠ qi → (W2.setCell ⟨qi, k * 12 + 11, none⟩ v).cell? ⟨b, o, none⟩ = W.cell? ⟨b, o, none⟩ := fun b o hb' hn => (hb3.cell b o (by omega) hn).trans (hc b o hb')
 have hf3 : ∀ b o, b < w.heap.size → (W2.setCell ⟨qi, k * 12 + 11, none⟩ v).frozen? ⟨b, o, none⟩ = W.frozen? ⟨b, o, none⟩ := fun b o hb' => by
  by_cases he : b = qi
  ·subst he
   exact froz_put.trans (hf b o hb')
  ·exact (hb3.froz b o (by omega) he).trans (hf b o hb')
 have hq3 : ∀ o u, W.cell? ⟨qi, o, none⟩ = some u → (W2.setCell ⟨qi, k * 12 + 11, none⟩ v).cell? ⟨qi, o, none⟩ = some (if k * 12 + 11 = o then v else u) := fun o u hu => cell_put ((hc qi o b3).trans hu) ((hf qi _ b3).trans (h.qf _)) (by omega)
 refine ⟨⟨by simp [World.setCell]; omega, fun j z hz => (hc3 g j b1 (Ne.symm n2)).trans (h.row.cell j z hz), fun o => (hf3 g o b1).trans (h.row.free o)⟩, h.len, (hc3 K 0 b2 n4).trans h.k0, (hc3 K 1 b2 n4).trans h.k1, (hc3 K 2 b2 n4).trans h.k2, (hc3 K 3 b2 n4).trans h.k3, (hc3 K 4 b2 n4).trans h.k4, (hc3 K 5 b2 n4).trans h.k5,
  fun o => (hf3 K o b2).trans (h.kf o), fun o => (hf3 qi o b3).trans (h.qf o), fun o => (hf3 qk o b4).trans (h.bf o),
  fun i s hi hs => (h.ib i s hi hs).imp fun b hu => (hq3 _ _ hu).trans (by rw [if_neg (by omega)]), fun i hi => (h.i9 i hi).imp fun b hu => (hq3 _ _ hu).trans (by rw [if_neg (by omega)]), fun i hi => ?_, fun i hi => (h.kb i hi).imp fun b hu => (hc3 qk i b4 (Ne.symm n6)).trans hu,
  fun i hi => ?_, ?_, fun i j b hi hj hne hbi => ?_, fun i b hi hbi => ?_, h.lt, h.ne, h.low, ?_, h.old⟩
 ·rw [hq3 _ _ (h.i11 i hi)]
  by_cases he : i = k
  ·rw [if_pos (by omega), if_pos he]
  ·rw [if_neg (by omega), if_neg he]
 ·by_cases he : i = k
  ·simp only [if_pos he]
   exact ⟨q, xs, hq, owns_buts hown hB3 fun b hb' e => by rw [hvo] at hb'; cases hb'; omega⟩
  ·simp only [if_neg he]
   obtain ⟨q', xs', h1, h2⟩ := h.own i hi
   refine ⟨q', xs', by omega, owns_buts (owns_buts h2 hb fun b hb' e => h.ap1 i k b hi hk he hb' e) hB3 fun b hb' e => by have := (h2.lt b hb').1; omega⟩
 ·obtain ⟨q', xs', h1, h2⟩ := h.osh
  exact ⟨q', xs', by omega, owns_buts (owns_buts h2 hb fun b hb' e => h.ap2 k b hk e hb') hB3 fun b hb' e => by have := (h2.lt b hb').1; omega⟩
 ·-- apart
  by_cases hik : i = k
  ·simp only [if_pos hik] at hbi
   simp only [if_neg (fun e : j = k => hne (hik.trans e.symm))]
   rw [hvo] at hbi
   cases hbi
   intro hbj
   have := (h.ownV hj hbj).2
   rcases hat with hat | hat
   ·exact h.ap1 k j hh hk hj (fun e => hne (hik.trans e)) hat hbj
   ·omega
  ·simp only [if_neg hik] at hbi
   by_cases hjk : j = k
   ·simp only [if_pos hjk]
    rw [hvo]
    intro e
    cases e
    have := (h.ownV hi hbi).2
    rcases hat with hat | hat
    ·exact h.ap1 i k hh hi hk hik hbi hat
    ·omega
   ·simp only [if_neg hjk]
    exact h.ap1 i j b hi hj hne hbi
 ·by_cases hik : i = k
  ·simp only [if_pos hik] at hbi
   rw [hvo] at hbi
   cases hbi
   intro hbs
   have := (h.ownS hbs).2
   rcases hat with hat | hat
   ·exact h.ap2 k hh hk hat hbs
   ·omega
  ·simp only [if_neg hik] at hbi
   exact h.ap2 i b hi hbi
 ·refine ⟨?_, fun b hb' hn => ?_, fun B hB hs => ?_⟩
  ·simp [World.setCell]; omega
  ·exact (hb3.blk b (by omega) (fun e => hn (.inr (.inr (.inl e))))).trans ((hb.blk b (by omega) (hP b hb')).trans (h.buts.blk b hb' hn))
  ·exact ((h.buts.below B hB hs).trans (hb.below B (fun b hb' => by have := (hV b hb').1; omega) (by omega))).trans (hb3.below B (hB qi (.inr (.inr (.inl rfl)))) (by omega))
end

end Go.Proofs.YtknnhnefbbjcdaaDoor

namespace Go.Proofs.YtknnhnefbbjcdaaDoor
open Go.RowKit
set_option linter.unusedVariables false
set_option linter.unusedSimpArgs false
attribute [local go_sem] ite_max ite_min vite_max vite_min ext_cell ext_frozen

section
variable {w0 w W W' : World} {g K qi qk ax n m nn cx off : Nat} {V : Nat → Value} {sh : Value} {nx : Int} {zs zs' : List Int} {i kind : Int}
theorem GS.bset (ht : Blanks w0) (hc : nn ≤ cx ∧ cx ≤ 9223372036854775807) (hz : off + nn ≤ n) (h : GS w0 w W g K qi qk ax n V sh m nx zs) (nm : ByteArray) (k : Nat) (b : Bool) (hk : px kind nm = some k) (hkn : k < nn) :
  Calls Tryd.prog 43 #[.agg #[.int .i64 i, .int .i64 kind, .slice (some ⟨g, off, none⟩) nn cx], .string nm, .bool b] W fun e w' => e = .returned (.tuple #[]) ∧ But g W w' ∧ Row w' g (zs.set (off + k) (bif b then 1 else 0)) :=
 bset_at i kind g off nn cx zs nm k b W (ht.on h.oldW) h.row hk hkn hc (by rw [h.len]; exact hz)
theorem GS.binner (ht : Blanks w0) (hc : nn ≤ cx ∧ cx ≤ 9223372036854775807) (h : GS w0 w W g K qi qk ax n V sh m nx zs) (q f : Nat) (hk : px kind ⟨#[]⟩ = some f) (hf : f + q < nn) :
  Calls Tryd.prog 25 #[.agg #[.int .i64 i, .int .i64 kind, .slice (some ⟨g, off, none⟩) nn cx], .int .i64 q] W fun e w' => e = .returned (.pointer (some ⟨g, off + (f + q), none⟩)) ∧ Below W.heap.size W w' :=
 binner_at i kind g off nn cx q f W (ht.on h.oldW) hk hf hc
theorem GS.bget (ht : Blanks w0) (hc : nn ≤ cx ∧ cx ≤ 9223372036854775807) (h : GS w0 w W g K qi qk ax n V sh m nx zs) (nm : ByteArray) (k : Nat) (z : Int) (hk : px kind nm = some k) (hkn : k < nn) (hz : zs[off + k]? = some z) :
  Calls Tryd.prog 19 #[.agg #[.int .i64 i, .int .i64 kind, .slice (some ⟨g, off, none⟩) nn cx], .string nm] W fun e w' => e = .returned (.int .i64 z) ∧ Below W.heap.size W w' :=
 bget_at i kind g off nn cx zs nm k z W (ht.on h.oldW) h.row hk hkn hc hz
theorem GS.baxis (ht : Blanks w0) (hc : nn ≤ cx ∧ cx ≤ 9223372036854775807) (h : GS w0 w W g K qi qk ax n V sh m nx zs) (z na : Int) (ok : Bool) (hk : px kind nmAxis = some 0) (hkn : 0 < nn) (hz : zs[off]? = some z) (hn : axN z = na) (ho : axOk z ax = ok) :
  Calls Tryd.prog 18 #[.agg #[.int .i64 i, .int .i64 kind, .slice (some ⟨g, off, none⟩) nn cx], .int .i64 (ax : Int)] W fun e w' => e = .returned (.tuple #[.int .i64 na, .bool ok]) ∧ Below W.heap.size W w' := by
 have := baxis_at i kind g off nn cx zs z ax W (ht.on h.oldW) h.row hk hkn hc hz
 rw [hn, ho] at this
 exact this
theorem GS.brises (ht : Blanks w0) (hc : nn ≤ cx ∧ cx ≤ 9223372036854775807) (h : GS w0 w W g K qi qk ax n V sh m nx zs) (e f : Nat) (z1 zf : Int) (b : Bool) (hk : px kind nmExecute = some e) (hk2 : px kind ⟨#[]⟩ = some f) (he : e < nn) (hf : f < nn) (h1 : zs[off + e]? = some z1) (h2 : zs[off + f]? = some zf) (hb : (decide (z1 ≠ 0) && decide (zf = 0)) = b) :
  Calls Tryd.prog 41 #[.agg #[.int .i64 i, .int .i64 kind, .slice (some ⟨g, off, none⟩) nn cx]] W fun x w' => x = .returned (.bool b) ∧ Below W.heap.size W w' := by
 have := brises_at i kind g off nn cx e f zs z1 zf W (ht.on h.oldW) h.row hk hk2 he hf hc h1 h2
 rw [hb] at this
 exact this
theorem GS.bclear (ht : Blanks w0) (hc : outsN kind + 7 ≤ cx ∧ cx ≤ 9223372036854775807) (hz : off + (outsN kind + 7) ≤ n) (hk : 21 ≤ kind ∧ kind ≤ 28) (h : GS w0 w W g K qi qk ax n V sh m nx zs) :
  Calls Tryd.prog 42 #[.agg #[.int .i64 i, .int .i64 kind, .slice (some ⟨g, off, none⟩) (outsN kind + 7) cx]] W fun e w' => e = .returned (.tuple #[]) ∧ But g W w' ∧ Row w' g (clrP kind off zs) :=
 bclear_at i kind g off cx zs w0 W ⟨hk, hc, by rw [h.len]; exact hz, ht, h.oldW, h.low.1, h.row⟩
theorem GS.bcommand (ht : Blanks w0) (hc : outsN kind + 7 ≤ cx ∧ cx ≤ 9223372036854775807) (hz : off + (outsN kind + 7) ≤ n) (hk : 21 ≤ kind ∧ kind ≤ 28) (h : GS w0 w W g K qi qk ax n V sh m nx zs) (id : Int) :
  Calls Tryd.prog 44 #[.agg #[.int .i64 i, .int .i64 kind, .slice (some ⟨g, off, none⟩) (outsN kind + 7) cx], .int .i64 id] W fun e w' => CmdV id e ∧ Below W.heap.size W w' := by
 have hzs : off + (outsN kind + 7) ≤ zs.length := by rw [h.len]; exact hz
 rcases (show kind = 21 ∨ kind = 22 ∨ kind = 23 ∨ kind = 24 ∨ kind = 25 ∨ kind = 26 ∨ kind = 27 ∨ kind = 28 by omega) with rfl | rfl | rfl | rfl | rfl | rfl | rfl | rfl
 ·exact bcmd21 i id _ _ cx W
 ·exact bcmd22 i id _ _ cx W
 ·exact bcmd23 i id _ _ cx W
 ·exact bcmd24 i id g off cx zs W (ht.on h.oldW) h.row hc hzs
 ·exact bcmd25 i id g off cx zs W (ht.on h.oldW) h.row hc hzs
 ·exact bcmd26 i id g off cx zs W (ht.on h.oldW) h.row hc hzs
 ·exact bcmd27 i id g off cx zs W (ht.on h.oldW) h.row hc hzs
 ·exact bcmd28 i id g off cx zs W (ht.on h.oldW) h.row hc hzs
end
theorem Buts.mono {P Q : Nat → Prop} {w w' : World} (h : Buts P w w') (hPQ : ∀ b, P b → Q b) : Buts Q w w' :=
 ⟨h.size, fun b hb hn => h.blk b hb (fun hp => hn (hPQ b hp)), fun B hB hs => h.below B (fun b hp => hB b (hPQ b hp)) hs⟩
theorem Buts.of_grown {a w w' : World} {row : Option Nat} (h : Below a.heap.size a w) (hg : w.grownBy w' row) : Buts (fun b => row = some b) a w' :=
 ⟨Nat.le_trans h.size hg.size, fun b hb hn => (hg.block b (Nat.lt_of_lt_of_le hb h.size) (fun e => hn e.symm)).trans (h.block b hb), fun B hB hs => (h.mono hs).grown hg (Nat.le_trans hs h.size) fun k hk => hB k hk⟩
structure AsIn (w0 w W : World) (g K qi qk ax n : Nat) (V : Nat → Value) (sh : Value) (m : Nat) (nx : Int) (zs : List Int) (kind : Int) (off cx : Nat) (z0 z1 i0 i1 : Int) : Prop where
 gs : GS w0 w W g K qi qk ax n V sh m nx zs
 cmd : 21 ≤ kind ∧ kind ≤ 28
 cap : outsN kind + 7 ≤ cx ∧ cx ≤ 9223372036854775807
 fit : off + (outsN kind + 7) ≤ n
 tab : Blanks w0
 few : ax ≤ 4 ∧ m ≤ 1000
 a0 : zs[off]? = some z0
 a1 : zs[off + 1]? = some z1
 b0 : zs[off + (outsN kind + 5)]? = some i0
 b1 : zs[off + (outsN kind + 5 + 1)]? = some i1
def AsOut (w0 w : World) (g K qi qk ax n : Nat) (sh : Value) (m : Nat) (zs : List Int) (kind : Int) (off : Nat) (e : Ending) (w' : World) : Prop :=
 e = .returned (.tuple #[]) ∧ ∃ V' nx' zs', GS w0 w w' g K qi qk ax n V' sh (m + 1) nx' zs' ∧ StepR kind off zs zs'
theorem gset {l : List Int} {off k a : Nat} {v : Int} (hk : off + k < l.length) : (l.set (off + k) v)[off + a]? = if k = a then some v else l[off + a]? := by
 rw [List.getElem?_set]
 by_cases he : k = a
 ·subst he
  rw [if_pos rfl, if_pos hk, if_pos rfl]
 ·rw [if_neg (by omega), if_neg he]

end Go.Proofs.YtknnhnefbbjcdaaDoor
