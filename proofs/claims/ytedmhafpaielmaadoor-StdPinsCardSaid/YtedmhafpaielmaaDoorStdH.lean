/- Layer 16: a call of a CTU. PRINTED by wip/tool/mkctu.py -/
import Derived.Test.YtedmhafpaielmaaDoorStdG
namespace Go.Proofs.YtedmhafpaielmaaDoor
open Go.RowKit
set_option linter.unusedVariables false
set_option linter.unusedSimpArgs false
attribute [local go_sem] ite_max ite_min vite_max vite_min ext_cell ext_frozen extS_cell extS_frozen

def ctQ (cv pv : Int) : Int := bif decide (pv ≤ cv) then 1 else 0
/-- the cells, and what is beside them -/
structure Sc (w W : World) (g : Nat) (zs : List Int) : Prop where
  row : Row W g zs
  but : But g w W
theorem Sc.below {w W W' : World} {g : Nat} {zs : List Int} (h : Sc w W g zs) (hb : Below W.heap.size W W') : Sc w W' g zs := ⟨h.row.below hb, h.but.trans (But.of_below hb)⟩
theorem Sc.set {w W : World} {g : Nat} {zs : List Int} (h : Sc w W g zs) (j : Nat) (z : Int) : Sc w (W.setCell ⟨g, j, none⟩ (.int .i64 z)) g (zs.set j z) := ⟨h.row.set j z, h.but.set _ _⟩
theorem Sc.start {w : World} {g : Nat} {zs : List Int} (h : Row w g zs) : Sc w w g zs := ⟨h, But.refl _ _⟩

set_option maxRecDepth 100000 in
set_option maxHeartbeats 2000000 in
theorem ctu000 (pv q cv : Int) (g k : Nat) (w : World) (h : Row w g [0, 0, pv, q, cv, 0]) (hcv : 0 ≤ cv ∧ cv ≤ 1000) :
    Calls Tryd.prog 17 #[.int .i64 13, .slice (some ⟨g, 0, none⟩) 6 k] w fun x w' => (∃ v, x = .returned v) ∧ But g w w' ∧ Row w' g [0, 0, pv, ctQ (cv) pv, cv, 0] := by
  have H0 := Lib.hid h
  have c0 := h.cell 0 _ rfl
  have c1 := h.cell 1 _ rfl
  have c2 := h.cell 2 _ rfl
  have c3 := h.cell 3 _ rfl
  have c4 := h.cell 4 _ rfl
  have c5 := h.cell 5 _ rfl
  have cf := h.free
  have hg := h.lt
  have hw : IntKind.i64.wrap (cv + 1) = cv + 1 := IntWalk.i64_in _ (by omega)
  have hmx : cv < 9223372036854775807 := by omega
  clear h
  go_enter Tryd.func17, Tryd.ntmps17
  go_upto_region 6 with (fail)
  refine wp_name fun W1 hW1 => ?_
  have HS1 : Hid (Sc w W1 g [0, 0, pv, q, cv, 0]) := Lib.hid (by rw [hW1.out]; exact (Sc.start H0.out))
  clear c0 c1 c2 c3 c4 c5 cf hg hW1 H0
  have c0 := HS1.out.row.cell 0 _ rfl
  have c1 := HS1.out.row.cell 1 _ rfl
  have c2 := HS1.out.row.cell 2 _ rfl
  have c3 := HS1.out.row.cell 3 _ rfl
  have c4 := HS1.out.row.cell 4 _ rfl
  have c5 := HS1.out.row.cell 5 _ rfl
  have cf := HS1.out.row.free
  have hg := HS1.out.row.lt
  refine wp_region_ext_tail 10 (by kernel_rfl) (by kernel_rfl) ?_
  simp only [List.take_succ_cons, List.take_zero, List.drop_succ_cons, List.drop_zero]
  repeat (go_big_quiet_step ((go_at_call 18; exact ext_same (truth_any _ _))))
  refine wpQuiet_nil ?_
  intro v2 hv2
  replace hv2 := ext_below hv2
  have HR2 := Lib.hid (HS1.out.below hv2)
  clear c0 c1 c2 c3 c4 c5 cf hg
  have c0 := HR2.out.row.cell 0 _ rfl
  have c1 := HR2.out.row.cell 1 _ rfl
  have c2 := HR2.out.row.cell 2 _ rfl
  have c3 := HR2.out.row.cell 3 _ rfl
  have c4 := HR2.out.row.cell 4 _ rfl
  have c5 := HR2.out.row.cell 5 _ rfl
  have cf := HR2.out.row.free
  have hg := HR2.out.row.lt
  go_upto_region 12 with (fail)
  refine wp_name fun W3 hW3 => ?_
  have HS3 : Hid (Sc w W3 g [0, 0, pv, ctQ (cv) pv, cv, 0]) := Lib.hid (by rw [hW3.out]; exact HR2.out.set 3 (ctQ (cv) pv))
  clear c0 c1 c2 c3 c4 c5 cf hg hW3 HR2 hv2 HS1
  have c0 := HS3.out.row.cell 0 _ rfl
  have c1 := HS3.out.row.cell 1 _ rfl
  have c2 := HS3.out.row.cell 2 _ rfl
  have c3 := HS3.out.row.cell 3 _ rfl
  have c4 := HS3.out.row.cell 4 _ rfl
  have c5 := HS3.out.row.cell 5 _ rfl
  have cf := HS3.out.row.free
  have hg := HS3.out.row.lt
  go_wp2_with (first | (go_at_call 18; refine (truth_any _ _).mono ?_; rintro e w' ⟨rfl, rfl⟩))
  refine bodyPost_end (results_none rfl _ _ _) rfl ⟨⟨_, rfl⟩, ?_, ?_⟩
  · exact (HS3.out.set 5 0).but
  · exact (HS3.out.set 5 0).row

set_option maxRecDepth 100000 in
set_option maxHeartbeats 2000000 in
theorem ctu001 (pv q cv : Int) (g k : Nat) (w : World) (h : Row w g [0, 0, pv, q, cv, 1]) (hcv : 0 ≤ cv ∧ cv ≤ 1000) :
    Calls Tryd.prog 17 #[.int .i64 13, .slice (some ⟨g, 0, none⟩) 6 k] w fun x w' => (∃ v, x = .returned v) ∧ But g w w' ∧ Row w' g [0, 0, pv, ctQ (cv) pv, cv, 0] := by
  have H0 := Lib.hid h
  have c0 := h.cell 0 _ rfl
  have c1 := h.cell 1 _ rfl
  have c2 := h.cell 2 _ rfl
  have c3 := h.cell 3 _ rfl
  have c4 := h.cell 4 _ rfl
  have c5 := h.cell 5 _ rfl
  have cf := h.free
  have hg := h.lt
  have hw : IntKind.i64.wrap (cv + 1) = cv + 1 := IntWalk.i64_in _ (by omega)
  have hmx : cv < 9223372036854775807 := by omega
  clear h
  go_enter Tryd.func17, Tryd.ntmps17
  go_upto_region 6 with (fail)
  refine wp_name fun W1 hW1 => ?_
  have HS1 : Hid (Sc w W1 g [0, 0, pv, q, cv, 1]) := Lib.hid (by rw [hW1.out]; exact (Sc.start H0.out))
  clear c0 c1 c2 c3 c4 c5 cf hg hW1 H0
  have c0 := HS1.out.row.cell 0 _ rfl
  have c1 := HS1.out.row.cell 1 _ rfl
  have c2 := HS1.out.row.cell 2 _ rfl
  have c3 := HS1.out.row.cell 3 _ rfl
  have c4 := HS1.out.row.cell 4 _ rfl
  have c5 := HS1.out.row.cell 5 _ rfl
  have cf := HS1.out.row.free
  have hg := HS1.out.row.lt
  refine wp_region_ext_tail 10 (by kernel_rfl) (by kernel_rfl) ?_
  simp only [List.take_succ_cons, List.take_zero, List.drop_succ_cons, List.drop_zero]
  repeat (go_big_quiet_step ((go_at_call 18; exact ext_same (truth_any _ _))))
  refine wpQuiet_nil ?_
  intro v2 hv2
  replace hv2 := ext_below hv2
  have HR2 := Lib.hid (HS1.out.below hv2)
  clear c0 c1 c2 c3 c4 c5 cf hg
  have c0 := HR2.out.row.cell 0 _ rfl
  have c1 := HR2.out.row.cell 1 _ rfl
  have c2 := HR2.out.row.cell 2 _ rfl
  have c3 := HR2.out.row.cell 3 _ rfl
  have c4 := HR2.out.row.cell 4 _ rfl
  have c5 := HR2.out.row.cell 5 _ rfl
  have cf := HR2.out.row.free
  have hg := HR2.out.row.lt
  go_upto_region 12 with (fail)
  refine wp_name fun W3 hW3 => ?_
  have HS3 : Hid (Sc w W3 g [0, 0, pv, ctQ (cv) pv, cv, 1]) := Lib.hid (by rw [hW3.out]; exact HR2.out.set 3 (ctQ (cv) pv))
  clear c0 c1 c2 c3 c4 c5 cf hg hW3 HR2 hv2 HS1
  have c0 := HS3.out.row.cell 0 _ rfl
  have c1 := HS3.out.row.cell 1 _ rfl
  have c2 := HS3.out.row.cell 2 _ rfl
  have c3 := HS3.out.row.cell 3 _ rfl
  have c4 := HS3.out.row.cell 4 _ rfl
  have c5 := HS3.out.row.cell 5 _ rfl
  have cf := HS3.out.row.free
  have hg := HS3.out.row.lt
  go_wp2_with (first | (go_at_call 18; refine (truth_any _ _).mono ?_; rintro e w' ⟨rfl, rfl⟩))
  refine bodyPost_end (results_none rfl _ _ _) rfl ⟨⟨_, rfl⟩, ?_, ?_⟩
  · exact (HS3.out.set 5 0).but
  · exact (HS3.out.set 5 0).row

set_option maxRecDepth 100000 in
set_option maxHeartbeats 2000000 in
theorem ctu020 (pv q cv : Int) (g k : Nat) (w : World) (h : Row w g [0, 2, pv, q, cv, 0]) (hcv : 0 ≤ cv ∧ cv ≤ 1000) :
    Calls Tryd.prog 17 #[.int .i64 13, .slice (some ⟨g, 0, none⟩) 6 k] w fun x w' => (∃ v, x = .returned v) ∧ But g w w' ∧ Row w' g [0, 2, pv, ctQ (0) pv, 0, 0] := by
  have H0 := Lib.hid h
  have c0 := h.cell 0 _ rfl
  have c1 := h.cell 1 _ rfl
  have c2 := h.cell 2 _ rfl
  have c3 := h.cell 3 _ rfl
  have c4 := h.cell 4 _ rfl
  have c5 := h.cell 5 _ rfl
  have cf := h.free
  have hg := h.lt
  have hw : IntKind.i64.wrap (cv + 1) = cv + 1 := IntWalk.i64_in _ (by omega)
  have hmx : cv < 9223372036854775807 := by omega
  clear h
  go_enter Tryd.func17, Tryd.ntmps17
  go_upto_region 6 with (fail)
  refine wp_name fun W1 hW1 => ?_
  have HS1 : Hid (Sc w W1 g [0, 2, pv, q, 0, 0]) := Lib.hid (by rw [hW1.out]; exact (Sc.start H0.out).set 4 0)
  clear c0 c1 c2 c3 c4 c5 cf hg hW1 H0
  have c0 := HS1.out.row.cell 0 _ rfl
  have c1 := HS1.out.row.cell 1 _ rfl
  have c2 := HS1.out.row.cell 2 _ rfl
  have c3 := HS1.out.row.cell 3 _ rfl
  have c4 := HS1.out.row.cell 4 _ rfl
  have c5 := HS1.out.row.cell 5 _ rfl
  have cf := HS1.out.row.free
  have hg := HS1.out.row.lt
  refine wp_region_ext_tail 10 (by kernel_rfl) (by kernel_rfl) ?_
  simp only [List.take_succ_cons, List.take_zero, List.drop_succ_cons, List.drop_zero]
  repeat (go_big_quiet_step ((go_at_call 18; exact ext_same (truth_any _ _))))
  refine wpQuiet_nil ?_
  intro v2 hv2
  replace hv2 := ext_below hv2
  have HR2 := Lib.hid (HS1.out.below hv2)
  clear c0 c1 c2 c3 c4 c5 cf hg
  have c0 := HR2.out.row.cell 0 _ rfl
  have c1 := HR2.out.row.cell 1 _ rfl
  have c2 := HR2.out.row.cell 2 _ rfl
  have c3 := HR2.out.row.cell 3 _ rfl
  have c4 := HR2.out.row.cell 4 _ rfl
  have c5 := HR2.out.row.cell 5 _ rfl
  have cf := HR2.out.row.free
  have hg := HR2.out.row.lt
  go_upto_region 12 with (fail)
  refine wp_name fun W3 hW3 => ?_
  have HS3 : Hid (Sc w W3 g [0, 2, pv, ctQ (0) pv, 0, 0]) := Lib.hid (by rw [hW3.out]; exact HR2.out.set 3 (ctQ (0) pv))
  clear c0 c1 c2 c3 c4 c5 cf hg hW3 HR2 hv2 HS1
  have c0 := HS3.out.row.cell 0 _ rfl
  have c1 := HS3.out.row.cell 1 _ rfl
  have c2 := HS3.out.row.cell 2 _ rfl
  have c3 := HS3.out.row.cell 3 _ rfl
  have c4 := HS3.out.row.cell 4 _ rfl
  have c5 := HS3.out.row.cell 5 _ rfl
  have cf := HS3.out.row.free
  have hg := HS3.out.row.lt
  go_wp2_with (first | (go_at_call 18; refine (truth_any _ _).mono ?_; rintro e w' ⟨rfl, rfl⟩))
  refine bodyPost_end (results_none rfl _ _ _) rfl ⟨⟨_, rfl⟩, ?_, ?_⟩
  · exact (HS3.out.set 5 0).but
  · exact (HS3.out.set 5 0).row

set_option maxRecDepth 100000 in
set_option maxHeartbeats 2000000 in
theorem ctu021 (pv q cv : Int) (g k : Nat) (w : World) (h : Row w g [0, 2, pv, q, cv, 1]) (hcv : 0 ≤ cv ∧ cv ≤ 1000) :
    Calls Tryd.prog 17 #[.int .i64 13, .slice (some ⟨g, 0, none⟩) 6 k] w fun x w' => (∃ v, x = .returned v) ∧ But g w w' ∧ Row w' g [0, 2, pv, ctQ (0) pv, 0, 0] := by
  have H0 := Lib.hid h
  have c0 := h.cell 0 _ rfl
  have c1 := h.cell 1 _ rfl
  have c2 := h.cell 2 _ rfl
  have c3 := h.cell 3 _ rfl
  have c4 := h.cell 4 _ rfl
  have c5 := h.cell 5 _ rfl
  have cf := h.free
  have hg := h.lt
  have hw : IntKind.i64.wrap (cv + 1) = cv + 1 := IntWalk.i64_in _ (by omega)
  have hmx : cv < 9223372036854775807 := by omega
  clear h
  go_enter Tryd.func17, Tryd.ntmps17
  go_upto_region 6 with (fail)
  refine wp_name fun W1 hW1 => ?_
  have HS1 : Hid (Sc w W1 g [0, 2, pv, q, 0, 1]) := Lib.hid (by rw [hW1.out]; exact (Sc.start H0.out).set 4 0)
  clear c0 c1 c2 c3 c4 c5 cf hg hW1 H0
  have c0 := HS1.out.row.cell 0 _ rfl
  have c1 := HS1.out.row.cell 1 _ rfl
  have c2 := HS1.out.row.cell 2 _ rfl
  have c3 := HS1.out.row.cell 3 _ rfl
  have c4 := HS1.out.row.cell 4 _ rfl
  have c5 := HS1.out.row.cell 5 _ rfl
  have cf := HS1.out.row.free
  have hg := HS1.out.row.lt
  refine wp_region_ext_tail 10 (by kernel_rfl) (by kernel_rfl) ?_
  simp only [List.take_succ_cons, List.take_zero, List.drop_succ_cons, List.drop_zero]
  repeat (go_big_quiet_step ((go_at_call 18; exact ext_same (truth_any _ _))))
  refine wpQuiet_nil ?_
  intro v2 hv2
  replace hv2 := ext_below hv2
  have HR2 := Lib.hid (HS1.out.below hv2)
  clear c0 c1 c2 c3 c4 c5 cf hg
  have c0 := HR2.out.row.cell 0 _ rfl
  have c1 := HR2.out.row.cell 1 _ rfl
  have c2 := HR2.out.row.cell 2 _ rfl
  have c3 := HR2.out.row.cell 3 _ rfl
  have c4 := HR2.out.row.cell 4 _ rfl
  have c5 := HR2.out.row.cell 5 _ rfl
  have cf := HR2.out.row.free
  have hg := HR2.out.row.lt
  go_upto_region 12 with (fail)
  refine wp_name fun W3 hW3 => ?_
  have HS3 : Hid (Sc w W3 g [0, 2, pv, ctQ (0) pv, 0, 1]) := Lib.hid (by rw [hW3.out]; exact HR2.out.set 3 (ctQ (0) pv))
  clear c0 c1 c2 c3 c4 c5 cf hg hW3 HR2 hv2 HS1
  have c0 := HS3.out.row.cell 0 _ rfl
  have c1 := HS3.out.row.cell 1 _ rfl
  have c2 := HS3.out.row.cell 2 _ rfl
  have c3 := HS3.out.row.cell 3 _ rfl
  have c4 := HS3.out.row.cell 4 _ rfl
  have c5 := HS3.out.row.cell 5 _ rfl
  have cf := HS3.out.row.free
  have hg := HS3.out.row.lt
  go_wp2_with (first | (go_at_call 18; refine (truth_any _ _).mono ?_; rintro e w' ⟨rfl, rfl⟩))
  refine bodyPost_end (results_none rfl _ _ _) rfl ⟨⟨_, rfl⟩, ?_, ?_⟩
  · exact (HS3.out.set 5 0).but
  · exact (HS3.out.set 5 0).row

set_option maxRecDepth 100000 in
set_option maxHeartbeats 2000000 in
theorem ctu100 (pv q cv : Int) (g k : Nat) (w : World) (h : Row w g [1, 0, pv, q, cv, 0]) (hcv : 0 ≤ cv ∧ cv ≤ 1000) :
    Calls Tryd.prog 17 #[.int .i64 13, .slice (some ⟨g, 0, none⟩) 6 k] w fun x w' => (∃ v, x = .returned v) ∧ But g w w' ∧ Row w' g [1, 0, pv, ctQ (cv + 1) pv, cv + 1, 1] := by
  have H0 := Lib.hid h
  have c0 := h.cell 0 _ rfl
  have c1 := h.cell 1 _ rfl
  have c2 := h.cell 2 _ rfl
  have c3 := h.cell 3 _ rfl
  have c4 := h.cell 4 _ rfl
  have c5 := h.cell 5 _ rfl
  have cf := h.free
  have hg := h.lt
  have hw : IntKind.i64.wrap (cv + 1) = cv + 1 := IntWalk.i64_in _ (by omega)
  have hmx : cv < 9223372036854775807 := by omega
  clear h
  go_enter Tryd.func17, Tryd.ntmps17
  go_upto_region 6 with (fail)
  refine wp_name fun W1 hW1 => ?_
  have HS1 : Hid (Sc w W1 g [1, 0, pv, q, cv + 1, 0]) := Lib.hid (by rw [hW1.out]; exact (Sc.start H0.out).set 4 (cv + 1))
  clear c0 c1 c2 c3 c4 c5 cf hg hW1 H0
  have c0 := HS1.out.row.cell 0 _ rfl
  have c1 := HS1.out.row.cell 1 _ rfl
  have c2 := HS1.out.row.cell 2 _ rfl
  have c3 := HS1.out.row.cell 3 _ rfl
  have c4 := HS1.out.row.cell 4 _ rfl
  have c5 := HS1.out.row.cell 5 _ rfl
  have cf := HS1.out.row.free
  have hg := HS1.out.row.lt
  refine wp_region_ext_tail 10 (by kernel_rfl) (by kernel_rfl) ?_
  simp only [List.take_succ_cons, List.take_zero, List.drop_succ_cons, List.drop_zero]
  repeat (go_big_quiet_step ((go_at_call 18; exact ext_same (truth_any _ _))))
  refine wpQuiet_nil ?_
  intro v2 hv2
  replace hv2 := ext_below hv2
  have HR2 := Lib.hid (HS1.out.below hv2)
  clear c0 c1 c2 c3 c4 c5 cf hg
  have c0 := HR2.out.row.cell 0 _ rfl
  have c1 := HR2.out.row.cell 1 _ rfl
  have c2 := HR2.out.row.cell 2 _ rfl
  have c3 := HR2.out.row.cell 3 _ rfl
  have c4 := HR2.out.row.cell 4 _ rfl
  have c5 := HR2.out.row.cell 5 _ rfl
  have cf := HR2.out.row.free
  have hg := HR2.out.row.lt
  go_upto_region 12 with (fail)
  refine wp_name fun W3 hW3 => ?_
  have HS3 : Hid (Sc w W3 g [1, 0, pv, ctQ (cv + 1) pv, cv + 1, 0]) := Lib.hid (by rw [hW3.out]; exact HR2.out.set 3 (ctQ (cv + 1) pv))
  clear c0 c1 c2 c3 c4 c5 cf hg hW3 HR2 hv2 HS1
  have c0 := HS3.out.row.cell 0 _ rfl
  have c1 := HS3.out.row.cell 1 _ rfl
  have c2 := HS3.out.row.cell 2 _ rfl
  have c3 := HS3.out.row.cell 3 _ rfl
  have c4 := HS3.out.row.cell 4 _ rfl
  have c5 := HS3.out.row.cell 5 _ rfl
  have cf := HS3.out.row.free
  have hg := HS3.out.row.lt
  go_wp2_with (first | (go_at_call 18; refine (truth_any _ _).mono ?_; rintro e w' ⟨rfl, rfl⟩))
  refine bodyPost_end (results_none rfl _ _ _) rfl ⟨⟨_, rfl⟩, ?_, ?_⟩
  · exact (HS3.out.set 5 1).but
  · exact (HS3.out.set 5 1).row

set_option maxRecDepth 100000 in
set_option maxHeartbeats 2000000 in
theorem ctu101 (pv q cv : Int) (g k : Nat) (w : World) (h : Row w g [1, 0, pv, q, cv, 1]) (hcv : 0 ≤ cv ∧ cv ≤ 1000) :
    Calls Tryd.prog 17 #[.int .i64 13, .slice (some ⟨g, 0, none⟩) 6 k] w fun x w' => (∃ v, x = .returned v) ∧ But g w w' ∧ Row w' g [1, 0, pv, ctQ (cv) pv, cv, 1] := by
  have H0 := Lib.hid h
  have c0 := h.cell 0 _ rfl
  have c1 := h.cell 1 _ rfl
  have c2 := h.cell 2 _ rfl
  have c3 := h.cell 3 _ rfl
  have c4 := h.cell 4 _ rfl
  have c5 := h.cell 5 _ rfl
  have cf := h.free
  have hg := h.lt
  have hw : IntKind.i64.wrap (cv + 1) = cv + 1 := IntWalk.i64_in _ (by omega)
  have hmx : cv < 9223372036854775807 := by omega
  clear h
  go_enter Tryd.func17, Tryd.ntmps17
  go_upto_region 6 with (fail)
  refine wp_name fun W1 hW1 => ?_
  have HS1 : Hid (Sc w W1 g [1, 0, pv, q, cv, 1]) := Lib.hid (by rw [hW1.out]; exact (Sc.start H0.out))
  clear c0 c1 c2 c3 c4 c5 cf hg hW1 H0
  have c0 := HS1.out.row.cell 0 _ rfl
  have c1 := HS1.out.row.cell 1 _ rfl
  have c2 := HS1.out.row.cell 2 _ rfl
  have c3 := HS1.out.row.cell 3 _ rfl
  have c4 := HS1.out.row.cell 4 _ rfl
  have c5 := HS1.out.row.cell 5 _ rfl
  have cf := HS1.out.row.free
  have hg := HS1.out.row.lt
  refine wp_region_ext_tail 10 (by kernel_rfl) (by kernel_rfl) ?_
  simp only [List.take_succ_cons, List.take_zero, List.drop_succ_cons, List.drop_zero]
  repeat (go_big_quiet_step ((go_at_call 18; exact ext_same (truth_any _ _))))
  refine wpQuiet_nil ?_
  intro v2 hv2
  replace hv2 := ext_below hv2
  have HR2 := Lib.hid (HS1.out.below hv2)
  clear c0 c1 c2 c3 c4 c5 cf hg
  have c0 := HR2.out.row.cell 0 _ rfl
  have c1 := HR2.out.row.cell 1 _ rfl
  have c2 := HR2.out.row.cell 2 _ rfl
  have c3 := HR2.out.row.cell 3 _ rfl
  have c4 := HR2.out.row.cell 4 _ rfl
  have c5 := HR2.out.row.cell 5 _ rfl
  have cf := HR2.out.row.free
  have hg := HR2.out.row.lt
  go_upto_region 12 with (fail)
  refine wp_name fun W3 hW3 => ?_
  have HS3 : Hid (Sc w W3 g [1, 0, pv, ctQ (cv) pv, cv, 1]) := Lib.hid (by rw [hW3.out]; exact HR2.out.set 3 (ctQ (cv) pv))
  clear c0 c1 c2 c3 c4 c5 cf hg hW3 HR2 hv2 HS1
  have c0 := HS3.out.row.cell 0 _ rfl
  have c1 := HS3.out.row.cell 1 _ rfl
  have c2 := HS3.out.row.cell 2 _ rfl
  have c3 := HS3.out.row.cell 3 _ rfl
  have c4 := HS3.out.row.cell 4 _ rfl
  have c5 := HS3.out.row.cell 5 _ rfl
  have cf := HS3.out.row.free
  have hg := HS3.out.row.lt
  go_wp2_with (first | (go_at_call 18; refine (truth_any _ _).mono ?_; rintro e w' ⟨rfl, rfl⟩))
  refine bodyPost_end (results_none rfl _ _ _) rfl ⟨⟨_, rfl⟩, ?_, ?_⟩
  · exact (HS3.out.set 5 1).but
  · exact (HS3.out.set 5 1).row

set_option maxRecDepth 100000 in
set_option maxHeartbeats 2000000 in
theorem ctu120 (pv q cv : Int) (g k : Nat) (w : World) (h : Row w g [1, 2, pv, q, cv, 0]) (hcv : 0 ≤ cv ∧ cv ≤ 1000) :
    Calls Tryd.prog 17 #[.int .i64 13, .slice (some ⟨g, 0, none⟩) 6 k] w fun x w' => (∃ v, x = .returned v) ∧ But g w w' ∧ Row w' g [1, 2, pv, ctQ (0) pv, 0, 1] := by
  have H0 := Lib.hid h
  have c0 := h.cell 0 _ rfl
  have c1 := h.cell 1 _ rfl
  have c2 := h.cell 2 _ rfl
  have c3 := h.cell 3 _ rfl
  have c4 := h.cell 4 _ rfl
  have c5 := h.cell 5 _ rfl
  have cf := h.free
  have hg := h.lt
  have hw : IntKind.i64.wrap (cv + 1) = cv + 1 := IntWalk.i64_in _ (by omega)
  have hmx : cv < 9223372036854775807 := by omega
  clear h
  go_enter Tryd.func17, Tryd.ntmps17
  go_upto_region 6 with (fail)
  refine wp_name fun W1 hW1 => ?_
  have HS1 : Hid (Sc w W1 g [1, 2, pv, q, 0, 0]) := Lib.hid (by rw [hW1.out]; exact (Sc.start H0.out).set 4 0)
  clear c0 c1 c2 c3 c4 c5 cf hg hW1 H0
  have c0 := HS1.out.row.cell 0 _ rfl
  have c1 := HS1.out.row.cell 1 _ rfl
  have c2 := HS1.out.row.cell 2 _ rfl
  have c3 := HS1.out.row.cell 3 _ rfl
  have c4 := HS1.out.row.cell 4 _ rfl
  have c5 := HS1.out.row.cell 5 _ rfl
  have cf := HS1.out.row.free
  have hg := HS1.out.row.lt
  refine wp_region_ext_tail 10 (by kernel_rfl) (by kernel_rfl) ?_
  simp only [List.take_succ_cons, List.take_zero, List.drop_succ_cons, List.drop_zero]
  repeat (go_big_quiet_step ((go_at_call 18; exact ext_same (truth_any _ _))))
  refine wpQuiet_nil ?_
  intro v2 hv2
  replace hv2 := ext_below hv2
  have HR2 := Lib.hid (HS1.out.below hv2)
  clear c0 c1 c2 c3 c4 c5 cf hg
  have c0 := HR2.out.row.cell 0 _ rfl
  have c1 := HR2.out.row.cell 1 _ rfl
  have c2 := HR2.out.row.cell 2 _ rfl
  have c3 := HR2.out.row.cell 3 _ rfl
  have c4 := HR2.out.row.cell 4 _ rfl
  have c5 := HR2.out.row.cell 5 _ rfl
  have cf := HR2.out.row.free
  have hg := HR2.out.row.lt
  go_upto_region 12 with (fail)
  refine wp_name fun W3 hW3 => ?_
  have HS3 : Hid (Sc w W3 g [1, 2, pv, ctQ (0) pv, 0, 0]) := Lib.hid (by rw [hW3.out]; exact HR2.out.set 3 (ctQ (0) pv))
  clear c0 c1 c2 c3 c4 c5 cf hg hW3 HR2 hv2 HS1
  have c0 := HS3.out.row.cell 0 _ rfl
  have c1 := HS3.out.row.cell 1 _ rfl
  have c2 := HS3.out.row.cell 2 _ rfl
  have c3 := HS3.out.row.cell 3 _ rfl
  have c4 := HS3.out.row.cell 4 _ rfl
  have c5 := HS3.out.row.cell 5 _ rfl
  have cf := HS3.out.row.free
  have hg := HS3.out.row.lt
  go_wp2_with (first | (go_at_call 18; refine (truth_any _ _).mono ?_; rintro e w' ⟨rfl, rfl⟩))
  refine bodyPost_end (results_none rfl _ _ _) rfl ⟨⟨_, rfl⟩, ?_, ?_⟩
  · exact (HS3.out.set 5 1).but
  · exact (HS3.out.set 5 1).row

set_option maxRecDepth 100000 in
set_option maxHeartbeats 2000000 in
theorem ctu121 (pv q cv : Int) (g k : Nat) (w : World) (h : Row w g [1, 2, pv, q, cv, 1]) (hcv : 0 ≤ cv ∧ cv ≤ 1000) :
    Calls Tryd.prog 17 #[.int .i64 13, .slice (some ⟨g, 0, none⟩) 6 k] w fun x w' => (∃ v, x = .returned v) ∧ But g w w' ∧ Row w' g [1, 2, pv, ctQ (0) pv, 0, 1] := by
  have H0 := Lib.hid h
  have c0 := h.cell 0 _ rfl
  have c1 := h.cell 1 _ rfl
  have c2 := h.cell 2 _ rfl
  have c3 := h.cell 3 _ rfl
  have c4 := h.cell 4 _ rfl
  have c5 := h.cell 5 _ rfl
  have cf := h.free
  have hg := h.lt
  have hw : IntKind.i64.wrap (cv + 1) = cv + 1 := IntWalk.i64_in _ (by omega)
  have hmx : cv < 9223372036854775807 := by omega
  clear h
  go_enter Tryd.func17, Tryd.ntmps17
  go_upto_region 6 with (fail)
  refine wp_name fun W1 hW1 => ?_
  have HS1 : Hid (Sc w W1 g [1, 2, pv, q, 0, 1]) := Lib.hid (by rw [hW1.out]; exact (Sc.start H0.out).set 4 0)
  clear c0 c1 c2 c3 c4 c5 cf hg hW1 H0
  have c0 := HS1.out.row.cell 0 _ rfl
  have c1 := HS1.out.row.cell 1 _ rfl
  have c2 := HS1.out.row.cell 2 _ rfl
  have c3 := HS1.out.row.cell 3 _ rfl
  have c4 := HS1.out.row.cell 4 _ rfl
  have c5 := HS1.out.row.cell 5 _ rfl
  have cf := HS1.out.row.free
  have hg := HS1.out.row.lt
  refine wp_region_ext_tail 10 (by kernel_rfl) (by kernel_rfl) ?_
  simp only [List.take_succ_cons, List.take_zero, List.drop_succ_cons, List.drop_zero]
  repeat (go_big_quiet_step ((go_at_call 18; exact ext_same (truth_any _ _))))
  refine wpQuiet_nil ?_
  intro v2 hv2
  replace hv2 := ext_below hv2
  have HR2 := Lib.hid (HS1.out.below hv2)
  clear c0 c1 c2 c3 c4 c5 cf hg
  have c0 := HR2.out.row.cell 0 _ rfl
  have c1 := HR2.out.row.cell 1 _ rfl
  have c2 := HR2.out.row.cell 2 _ rfl
  have c3 := HR2.out.row.cell 3 _ rfl
  have c4 := HR2.out.row.cell 4 _ rfl
  have c5 := HR2.out.row.cell 5 _ rfl
  have cf := HR2.out.row.free
  have hg := HR2.out.row.lt
  go_upto_region 12 with (fail)
  refine wp_name fun W3 hW3 => ?_
  have HS3 : Hid (Sc w W3 g [1, 2, pv, ctQ (0) pv, 0, 1]) := Lib.hid (by rw [hW3.out]; exact HR2.out.set 3 (ctQ (0) pv))
  clear c0 c1 c2 c3 c4 c5 cf hg hW3 HR2 hv2 HS1
  have c0 := HS3.out.row.cell 0 _ rfl
  have c1 := HS3.out.row.cell 1 _ rfl
  have c2 := HS3.out.row.cell 2 _ rfl
  have c3 := HS3.out.row.cell 3 _ rfl
  have c4 := HS3.out.row.cell 4 _ rfl
  have c5 := HS3.out.row.cell 5 _ rfl
  have cf := HS3.out.row.free
  have hg := HS3.out.row.lt
  go_wp2_with (first | (go_at_call 18; refine (truth_any _ _).mono ?_; rintro e w' ⟨rfl, rfl⟩))
  refine bodyPost_end (results_none rfl _ _ _) rfl ⟨⟨_, rfl⟩, ?_, ?_⟩
  · exact (HS3.out.set 5 1).but
  · exact (HS3.out.set 5 1).row

end Go.Proofs.YtedmhafpaielmaaDoor
