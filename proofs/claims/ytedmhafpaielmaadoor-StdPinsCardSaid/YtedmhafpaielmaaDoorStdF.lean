/- Layer 16: a call of a TP. PRINTED by wip/tool/mktp.py -/
import Derived.Test.YtedmhafpaielmaaDoorStdE
namespace Go.Proofs.YtedmhafpaielmaaDoor
open Go.RowKit
set_option linter.unusedVariables false
set_option linter.unusedSimpArgs false
attribute [local go_sem] ite_max ite_min vite_max vite_min ext_cell ext_frozen extS_cell extS_frozen

theorem Row.set {w : World} {g : Nat} {zs : List Int} (h : Row w g zs) (j : Nat) (z : Int) : Row (w.setCell ⟨g, j, none⟩ (.int .i64 z)) g (zs.set j z) := by
  refine ⟨by simpa [World.setCell] using h.lt, fun i y hy => ?_, fun o => ?_⟩
  · rw [List.getElem?_set] at hy
    by_cases c : j = i
    · subst c
      rw [if_pos rfl] at hy
      split at hy
      · cases hy
        rename_i hl
        exact World.cell?_setCell_same _ _ _ (h.cell j _ (List.getElem?_eq_getElem hl))
      · cases hy
    · rw [if_neg c] at hy
      rw [World.cell?_setCell_other _ _ _ _ (fun he => by injection he with h1 h2; exact c h2)]
      exact h.cell i y hy
  · have := h.free o
    go_simp

/-- what is kept in a timer's body: the cells, the variable that leads to them -/
structure St (w W : World) (g bx : Nat) (zs : List Int) (n k : Nat) : Prop where
  row : Row W g zs
  box : W.cell? ⟨bx, 0, none⟩ = some (.slice (some ⟨g, 0, none⟩) n k)
  bl : bx < W.heap.size
  ne : bx ≠ g
  ne' : g ≠ bx
  but : But g w W
theorem St.below {w W W' : World} {g bx n k : Nat} {zs : List Int} (h : St w W g bx zs n k) (hb : Below W.heap.size W W') : St w W' g bx zs n k :=
  ⟨h.row.below hb, (hb.cell (p := ⟨bx, 0, none⟩) h.bl).trans h.box, Nat.lt_of_lt_of_le h.bl hb.size, h.ne, h.ne', h.but.trans (But.of_below hb)⟩
theorem St.set {w W : World} {g bx n k : Nat} {zs : List Int} (h : St w W g bx zs n k) (j : Nat) (z : Int) : St w (W.setCell ⟨g, j, none⟩ (.int .i64 z)) g bx (zs.set j z) n k :=
  ⟨h.row.set j z, by rw [World.cell?_setCell_other _ _ _ _ (fun he => by injection he with h1 h2; exact h.ne' h1)]; exact h.box, by simpa [World.setCell] using h.bl, h.ne, h.ne', h.but.set _ _⟩
theorem St.drew {w W : World} {g bx n k : Nat} {zs : List Int} (h : St w W g bx zs n k) : St w W.drew g bx zs n k := h.below ((Below.refl _ _).drew)
theorem St.up {w W W' : World} {g bx n k : Nat} {a b c d x y e : Int} (h : St w W g bx [a, b, c, d, x, y] n k) (hb : But g W W') (hf : ∀ o, W'.frozen? ⟨g, o, none⟩ = false) (h3 : W'.cell? ⟨g, 3, none⟩ = some (.int .i64 e)) (hc : ∀ o, o ≠ 3 → W'.cell? ⟨g, o, none⟩ = W.cell? ⟨g, o, none⟩) : St w W' g bx [a, b, c, e, x, y] n k :=
  ⟨row6 (Nat.lt_of_lt_of_le h.row.lt hb.size) hf ((hc 0 (by omega)).trans (h.row.cell 0 _ rfl)) ((hc 1 (by omega)).trans (h.row.cell 1 _ rfl)) ((hc 2 (by omega)).trans (h.row.cell 2 _ rfl)) h3 ((hc 4 (by omega)).trans (h.row.cell 4 _ rfl)) ((hc 5 (by omega)).trans (h.row.cell 5 _ rfl)),
    (hb.cell bx 0 h.bl h.ne).trans h.box, Nat.lt_of_lt_of_le h.bl hb.size, h.ne, h.ne', h.but.trans hb⟩
theorem St.start {w : World} {g n k : Nat} {zs : List Int} {T : TypeId} (h : Row w g zs) : St w (w.alloc (.cells #[.slice (some ⟨g, 0, none⟩) n k] T)) g w.heap.size zs n k :=
  ⟨h.below ((Below.refl _ _).alloc (Nat.le_refl _) _), heap_cell 0 _ (heap_alloc_new w _) rfl, by simp, by have := h.lt; omega, by have := h.lt; omega, (But.refl _ _).alloc _⟩

def one6 (b : Bool) : Int := bif b then 1 else 0
def tpQ (e pt : Int) : Int := bif decide (e < pt) then 1 else 0

set_option maxRecDepth 100000 in
set_option maxHeartbeats 2000000 in
theorem tp_rest0 (p pt q e : Int) (g n k : Nat) (w : World)  (hn : 6 ≤ n) (h : Row w g [0, pt, q, e, p, 0]) (hpb : -9223372036854775808 ≤ pt ∧ pt ≤ 9223372036854775807) (heb : -9223372036854775808 ≤ e) :
    Calls Tryd.prog 16 #[.int .i64 12, .slice (some ⟨g, 0, none⟩) n k] w fun x w' => (∃ v, x = .returned v) ∧ But g w w' ∧ Row w' g [0, pt, q, e, 0, 0] := by
  have i0 : (0 : Int) < (n : Int) := by omega
  have i1 : (1 : Int) < (n : Int) := by omega
  have i2 : (2 : Int) < (n : Int) := by omega
  have i3 : (3 : Int) < (n : Int) := by omega
  have i4 : (4 : Int) < (n : Int) := by omega
  have i5 : (5 : Int) < (n : Int) := by omega
  have H0 := Lib.hid h
  have c0 := h.cell 0 _ rfl
  have c1 := h.cell 1 _ rfl
  have c2 := h.cell 2 _ rfl
  have c3 := h.cell 3 _ rfl
  have c4 := h.cell 4 _ rfl
  have c5 := h.cell 5 _ rfl
  have cf := h.free
  have hg := h.lt
  have hne : ¬ w.heap.size = g := by omega
  have hne' : ¬ g = w.heap.size := by omega
  skip
  have cx := True.intro
  have hbx := True.intro
  go_enter Tryd.func16, Tryd.ntmps16
  go_upto_region 21 with (fail)
  refine wp_name fun W1 hW1 => ?_
  have HS1 : Hid (St w W1 g w.heap.size _ n k) := Lib.hid (by rw [hW1.out]; exact St.start H0.out)
  clear c0 c1 c2 c3 c4 c5 cf hg cx hbx hne hne' hW1 
  have c0 := HS1.out.row.cell 0 _ rfl
  have c1 := HS1.out.row.cell 1 _ rfl
  have c2 := HS1.out.row.cell 2 _ rfl
  have c3 := HS1.out.row.cell 3 _ rfl
  have c4 := HS1.out.row.cell 4 _ rfl
  have c5 := HS1.out.row.cell 5 _ rfl
  have cf := HS1.out.row.free
  have hg := HS1.out.row.lt
  have cx := HS1.out.box
  have hbx := HS1.out.bl
  have hne := HS1.out.ne
  have hne' := HS1.out.ne'
  refine wp_region_ext_tail 7 (by kernel_rfl) (by kernel_rfl) ?_
  simp only [List.take_succ_cons, List.take_zero, List.drop_succ_cons, List.drop_zero]
  repeat (go_big_quiet_step ((go_at_call 18; exact ext_same (truth_any _ _))))
  refine wpQuiet_nil ?_
  intro v2 hv2
  replace hv2 := ext_below hv2
  have HR2 := Lib.hid (HS1.out.below hv2)
  clear c0 c1 c2 c3 c4 c5 cf hg cx hbx hne hne'
  have c0 := HR2.out.row.cell 0 _ rfl
  have c1 := HR2.out.row.cell 1 _ rfl
  have c2 := HR2.out.row.cell 2 _ rfl
  have c3 := HR2.out.row.cell 3 _ rfl
  have c4 := HR2.out.row.cell 4 _ rfl
  have c5 := HR2.out.row.cell 5 _ rfl
  have cf := HR2.out.row.free
  have hg := HR2.out.row.lt
  have cx := HR2.out.box
  have hbx := HR2.out.bl
  have hne := HR2.out.ne
  have hne' := HR2.out.ne'
  clear hv2
  go_wp2
  refine bodyPost_end (results_none rfl _ _ _) rfl ⟨⟨_, rfl⟩, ?_, ?_⟩
  · exact (HR2.out.set 4 (0)).but
  · exact (HR2.out.set 4 (0)).row

set_option maxRecDepth 100000 in
set_option maxHeartbeats 2000000 in
theorem tp_rest1 (a p pt q e : Int) (g n k : Nat) (w : World) (ha : ¬ a = 0) (hp : ¬ p = 0) (hn : 6 ≤ n) (h : Row w g [a, pt, q, e, p, 0]) (hpb : -9223372036854775808 ≤ pt ∧ pt ≤ 9223372036854775807) (heb : -9223372036854775808 ≤ e) :
    Calls Tryd.prog 16 #[.int .i64 12, .slice (some ⟨g, 0, none⟩) n k] w fun x w' => (∃ v, x = .returned v) ∧ But g w w' ∧ Row w' g [a, pt, q, e, 1, 0] := by
  have i0 : (0 : Int) < (n : Int) := by omega
  have i1 : (1 : Int) < (n : Int) := by omega
  have i2 : (2 : Int) < (n : Int) := by omega
  have i3 : (3 : Int) < (n : Int) := by omega
  have i4 : (4 : Int) < (n : Int) := by omega
  have i5 : (5 : Int) < (n : Int) := by omega
  have H0 := Lib.hid h
  have c0 := h.cell 0 _ rfl
  have c1 := h.cell 1 _ rfl
  have c2 := h.cell 2 _ rfl
  have c3 := h.cell 3 _ rfl
  have c4 := h.cell 4 _ rfl
  have c5 := h.cell 5 _ rfl
  have cf := h.free
  have hg := h.lt
  have hne : ¬ w.heap.size = g := by omega
  have hne' : ¬ g = w.heap.size := by omega
  have hab : (a != 0) = true := by simp [ha]
  have cx := True.intro
  have hbx := True.intro
  go_enter Tryd.func16, Tryd.ntmps16
  go_upto_region 21 with (fail)
  refine wp_name fun W1 hW1 => ?_
  have HS1 : Hid (St w W1 g w.heap.size _ n k) := Lib.hid (by rw [hW1.out]; exact St.start H0.out)
  clear c0 c1 c2 c3 c4 c5 cf hg cx hbx hne hne' hW1 
  have c0 := HS1.out.row.cell 0 _ rfl
  have c1 := HS1.out.row.cell 1 _ rfl
  have c2 := HS1.out.row.cell 2 _ rfl
  have c3 := HS1.out.row.cell 3 _ rfl
  have c4 := HS1.out.row.cell 4 _ rfl
  have c5 := HS1.out.row.cell 5 _ rfl
  have cf := HS1.out.row.free
  have hg := HS1.out.row.lt
  have cx := HS1.out.box
  have hbx := HS1.out.bl
  have hne := HS1.out.ne
  have hne' := HS1.out.ne'
  refine wp_region_ext_tail 7 (by kernel_rfl) (by kernel_rfl) ?_
  simp only [List.take_succ_cons, List.take_zero, List.drop_succ_cons, List.drop_zero]
  repeat (go_big_quiet_step ((go_at_call 18; exact ext_same (truth_any _ _))))
  refine wpQuiet_nil ?_
  intro v2 hv2
  replace hv2 := ext_below hv2
  have HR2 := Lib.hid (HS1.out.below hv2)
  clear c0 c1 c2 c3 c4 c5 cf hg cx hbx hne hne'
  have c0 := HR2.out.row.cell 0 _ rfl
  have c1 := HR2.out.row.cell 1 _ rfl
  have c2 := HR2.out.row.cell 2 _ rfl
  have c3 := HR2.out.row.cell 3 _ rfl
  have c4 := HR2.out.row.cell 4 _ rfl
  have c5 := HR2.out.row.cell 5 _ rfl
  have cf := HR2.out.row.free
  have hg := HR2.out.row.lt
  have cx := HR2.out.box
  have hbx := HR2.out.bl
  have hne := HR2.out.ne
  have hne' := HR2.out.ne'
  clear hv2
  go_wp2
  refine bodyPost_end (results_none rfl _ _ _) rfl ⟨⟨_, rfl⟩, ?_, ?_⟩
  · exact (HR2.out.set 4 (1)).but
  · exact (HR2.out.set 4 (1)).row

set_option maxRecDepth 100000 in
set_option maxHeartbeats 2000000 in
theorem tp_run0 (p r pt q e : Int) (g n k : Nat) (w : World) (hr : ¬ r = 0) (hn : 6 ≤ n) (h : Row w g [0, pt, q, e, p, r]) (hpb : -9223372036854775808 ≤ pt ∧ pt ≤ 9223372036854775807) (heb : -9223372036854775808 ≤ e) :
    Calls Tryd.prog 16 #[.int .i64 12, .slice (some ⟨g, 0, none⟩) n k] w fun x w' => (∃ v, x = .returned v) ∧ But g w w' ∧ Row w' g [0, pt, tpQ e pt, upI e pt, 0, tpQ e pt] := by
  have i0 : (0 : Int) < (n : Int) := by omega
  have i1 : (1 : Int) < (n : Int) := by omega
  have i2 : (2 : Int) < (n : Int) := by omega
  have i3 : (3 : Int) < (n : Int) := by omega
  have i4 : (4 : Int) < (n : Int) := by omega
  have i5 : (5 : Int) < (n : Int) := by omega
  have H0 := Lib.hid h
  have c0 := h.cell 0 _ rfl
  have c1 := h.cell 1 _ rfl
  have c2 := h.cell 2 _ rfl
  have c3 := h.cell 3 _ rfl
  have c4 := h.cell 4 _ rfl
  have c5 := h.cell 5 _ rfl
  have cf := h.free
  have hg := h.lt
  have hne : ¬ w.heap.size = g := by omega
  have hne' : ¬ g = w.heap.size := by omega
  skip
  have cx := True.intro
  have hbx := True.intro
  go_enter Tryd.func16, Tryd.ntmps16
  go_upto_region 18 with (fail)
  refine wp_name fun W1 hW1 => ?_
  have HS1 : Hid (St w W1 g w.heap.size _ n k) := Lib.hid (by rw [hW1.out]; exact St.start H0.out)
  clear c0 c1 c2 c3 c4 c5 cf hg cx hbx hne hne' hW1 
  have c0 := HS1.out.row.cell 0 _ rfl
  have c1 := HS1.out.row.cell 1 _ rfl
  have c2 := HS1.out.row.cell 2 _ rfl
  have c3 := HS1.out.row.cell 3 _ rfl
  have c4 := HS1.out.row.cell 4 _ rfl
  have c5 := HS1.out.row.cell 5 _ rfl
  have cf := HS1.out.row.free
  have hg := HS1.out.row.lt
  have cx := HS1.out.box
  have hbx := HS1.out.bl
  have hne := HS1.out.ne
  have hne' := HS1.out.ne'
  refine wp_region_ext_tail 10 (by kernel_rfl) (by kernel_rfl) ?_
  simp only [List.take_succ_cons, List.take_zero, List.drop_succ_cons, List.drop_zero]
  repeat (go_big_quiet_step ((go_at_call 18; exact ext_same (truth_any _ _))))
  refine wpQuiet_nil ?_
  intro v2 hv2
  replace hv2 := ext_below hv2
  have HR2 := Lib.hid (HS1.out.below hv2)
  clear c0 c1 c2 c3 c4 c5 cf hg cx hbx hne hne'
  have c0 := HR2.out.row.cell 0 _ rfl
  have c1 := HR2.out.row.cell 1 _ rfl
  have c2 := HR2.out.row.cell 2 _ rfl
  have c3 := HR2.out.row.cell 3 _ rfl
  have c4 := HR2.out.row.cell 4 _ rfl
  have c5 := HR2.out.row.cell 5 _ rfl
  have cf := HR2.out.row.free
  have hg := HR2.out.row.lt
  have cx := HR2.out.box
  have hbx := HR2.out.bl
  have hne := HR2.out.ne
  have hne' := HR2.out.ne'
  go_upto_region 19 with (fail)
  refine wp_name fun W3 hW3 => ?_
  have HS3 : Hid (St w W3 g w.heap.size _ n k) := Lib.hid (by rw [hW3.out]; exact HR2.out.set 2 (tpQ (e) pt))
  clear c0 c1 c2 c3 c4 c5 cf hg cx hbx hne hne' hW3 HR2 hv2
  have c0 := HS3.out.row.cell 0 _ rfl
  have c1 := HS3.out.row.cell 1 _ rfl
  have c2 := HS3.out.row.cell 2 _ rfl
  have c3 := HS3.out.row.cell 3 _ rfl
  have c4 := HS3.out.row.cell 4 _ rfl
  have c5 := HS3.out.row.cell 5 _ rfl
  have cf := HS3.out.row.free
  have hg := HS3.out.row.lt
  have cx := HS3.out.box
  have hbx := HS3.out.bl
  have hne := HS3.out.ne
  have hne' := HS3.out.ne'
  refine wp_region_ext_tail 5 (by kernel_rfl) (by kernel_rfl) ?_
  simp only [List.take_succ_cons, List.take_zero, List.drop_succ_cons, List.drop_zero]
  repeat (go_big_quiet_step (fail))
  refine wpQuiet_nil ?_
  intro v4 hv4
  replace hv4 := ext_below hv4
  have HR4 := Lib.hid (HS3.out.below hv4)
  clear c0 c1 c2 c3 c4 c5 cf hg cx hbx hne hne'
  have c0 := HR4.out.row.cell 0 _ rfl
  have c1 := HR4.out.row.cell 1 _ rfl
  have c2 := HR4.out.row.cell 2 _ rfl
  have c3 := HR4.out.row.cell 3 _ rfl
  have c4 := HR4.out.row.cell 4 _ rfl
  have c5 := HR4.out.row.cell 5 _ rfl
  have cf := HR4.out.row.free
  have hg := HR4.out.row.lt
  have cx := HR4.out.box
  have hbx := HR4.out.bl
  have hne := HR4.out.ne
  have hne' := HR4.out.ne'
  go_upto_region 20 with (fail)
  refine wp_name fun W5 hW5 => ?_
  have HS5 : Hid (St w W5 g w.heap.size _ n k) := Lib.hid (by rw [hW5.out]; exact HR4.out.set 5 (tpQ (e) pt))
  clear c0 c1 c2 c3 c4 c5 cf hg cx hbx hne hne' hW5 HR4 hv4
  have c0 := HS5.out.row.cell 0 _ rfl
  have c1 := HS5.out.row.cell 1 _ rfl
  have c2 := HS5.out.row.cell 2 _ rfl
  have c3 := HS5.out.row.cell 3 _ rfl
  have c4 := HS5.out.row.cell 4 _ rfl
  have c5 := HS5.out.row.cell 5 _ rfl
  have cf := HS5.out.row.free
  have hg := HS5.out.row.lt
  have cx := HS5.out.box
  have hbx := HS5.out.bl
  have hne := HS5.out.ne
  have hne' := HS5.out.ne'
  go_wp2_with fail
  refine (up_any w.heap.size g n k pt (e) _ hbx hne hg (by omega) cx c1 c3 cf hpb.2 (by omega)).mono ?_
  rintro x u6 ⟨⟨v, rfl⟩, hbut, hf3, hc3, hc⟩
  have HU6 := Lib.hid (HS5.out.up hbut hf3 hc3 hc)
  clear c0 c1 c2 c3 c4 c5 cf hg cx hbx hne hne' hbut hf3 hc3 hc
  have c0 := HU6.out.row.cell 0 _ rfl
  have c1 := HU6.out.row.cell 1 _ rfl
  have c2 := HU6.out.row.cell 2 _ rfl
  have c3 := HU6.out.row.cell 3 _ rfl
  have c4 := HU6.out.row.cell 4 _ rfl
  have c5 := HU6.out.row.cell 5 _ rfl
  have cf := HU6.out.row.free
  have hg := HU6.out.row.lt
  have cx := HU6.out.box
  have hbx := HU6.out.bl
  have hne := HU6.out.ne
  have hne' := HU6.out.ne'
  go_upto_region 21 with (fail)
  refine wp_region_ext_tail 7 (by kernel_rfl) (by kernel_rfl) ?_
  simp only [List.take_succ_cons, List.take_zero, List.drop_succ_cons, List.drop_zero]
  repeat (go_big_quiet_step ((go_at_call 18; exact ext_same (truth_any _ _))))
  refine wpQuiet_nil ?_
  intro v7 hv7
  replace hv7 := ext_below hv7
  have HR7 := Lib.hid (HU6.out.below hv7)
  clear c0 c1 c2 c3 c4 c5 cf hg cx hbx hne hne'
  have c0 := HR7.out.row.cell 0 _ rfl
  have c1 := HR7.out.row.cell 1 _ rfl
  have c2 := HR7.out.row.cell 2 _ rfl
  have c3 := HR7.out.row.cell 3 _ rfl
  have c4 := HR7.out.row.cell 4 _ rfl
  have c5 := HR7.out.row.cell 5 _ rfl
  have cf := HR7.out.row.free
  have hg := HR7.out.row.lt
  have cx := HR7.out.box
  have hbx := HR7.out.bl
  have hne := HR7.out.ne
  have hne' := HR7.out.ne'
  clear hv7
  go_wp2
  refine bodyPost_end (results_none rfl _ _ _) rfl ⟨⟨_, rfl⟩, ?_, ?_⟩
  · exact (HR7.out.set 4 (0)).but
  · exact (HR7.out.set 4 (0)).row

set_option maxRecDepth 100000 in
set_option maxHeartbeats 2000000 in
theorem tp_run2 (a r pt q e : Int) (g n k : Nat) (w : World) (ha : ¬ a = 0) (hr : ¬ r = 0) (hn : 6 ≤ n) (h : Row w g [a, pt, q, e, 0, r]) (hpb : -9223372036854775808 ≤ pt ∧ pt ≤ 9223372036854775807) (heb : -9223372036854775808 ≤ e) :
    Calls Tryd.prog 16 #[.int .i64 12, .slice (some ⟨g, 0, none⟩) n k] w fun x w' => (∃ v, x = .returned v) ∧ But g w w' ∧ Row w' g [a, pt, tpQ e pt, upI e pt, 1, tpQ e pt] := by
  have i0 : (0 : Int) < (n : Int) := by omega
  have i1 : (1 : Int) < (n : Int) := by omega
  have i2 : (2 : Int) < (n : Int) := by omega
  have i3 : (3 : Int) < (n : Int) := by omega
  have i4 : (4 : Int) < (n : Int) := by omega
  have i5 : (5 : Int) < (n : Int) := by omega
  have H0 := Lib.hid h
  have c0 := h.cell 0 _ rfl
  have c1 := h.cell 1 _ rfl
  have c2 := h.cell 2 _ rfl
  have c3 := h.cell 3 _ rfl
  have c4 := h.cell 4 _ rfl
  have c5 := h.cell 5 _ rfl
  have cf := h.free
  have hg := h.lt
  have hne : ¬ w.heap.size = g := by omega
  have hne' : ¬ g = w.heap.size := by omega
  have hab : (a != 0) = true := by simp [ha]
  have cx := True.intro
  have hbx := True.intro
  go_enter Tryd.func16, Tryd.ntmps16
  go_upto_region 18 with (fail)
  refine wp_name fun W1 hW1 => ?_
  have HS1 : Hid (St w W1 g w.heap.size _ n k) := Lib.hid (by rw [hW1.out]; exact St.start H0.out)
  clear c0 c1 c2 c3 c4 c5 cf hg cx hbx hne hne' hW1 
  have c0 := HS1.out.row.cell 0 _ rfl
  have c1 := HS1.out.row.cell 1 _ rfl
  have c2 := HS1.out.row.cell 2 _ rfl
  have c3 := HS1.out.row.cell 3 _ rfl
  have c4 := HS1.out.row.cell 4 _ rfl
  have c5 := HS1.out.row.cell 5 _ rfl
  have cf := HS1.out.row.free
  have hg := HS1.out.row.lt
  have cx := HS1.out.box
  have hbx := HS1.out.bl
  have hne := HS1.out.ne
  have hne' := HS1.out.ne'
  refine wp_region_ext_tail 10 (by kernel_rfl) (by kernel_rfl) ?_
  simp only [List.take_succ_cons, List.take_zero, List.drop_succ_cons, List.drop_zero]
  repeat (go_big_quiet_step ((go_at_call 18; exact ext_same (truth_any _ _))))
  refine wpQuiet_nil ?_
  intro v2 hv2
  replace hv2 := ext_below hv2
  have HR2 := Lib.hid (HS1.out.below hv2)
  clear c0 c1 c2 c3 c4 c5 cf hg cx hbx hne hne'
  have c0 := HR2.out.row.cell 0 _ rfl
  have c1 := HR2.out.row.cell 1 _ rfl
  have c2 := HR2.out.row.cell 2 _ rfl
  have c3 := HR2.out.row.cell 3 _ rfl
  have c4 := HR2.out.row.cell 4 _ rfl
  have c5 := HR2.out.row.cell 5 _ rfl
  have cf := HR2.out.row.free
  have hg := HR2.out.row.lt
  have cx := HR2.out.box
  have hbx := HR2.out.bl
  have hne := HR2.out.ne
  have hne' := HR2.out.ne'
  go_upto_region 19 with (fail)
  refine wp_name fun W3 hW3 => ?_
  have HS3 : Hid (St w W3 g w.heap.size _ n k) := Lib.hid (by rw [hW3.out]; exact HR2.out.set 2 (tpQ (e) pt))
  clear c0 c1 c2 c3 c4 c5 cf hg cx hbx hne hne' hW3 HR2 hv2
  have c0 := HS3.out.row.cell 0 _ rfl
  have c1 := HS3.out.row.cell 1 _ rfl
  have c2 := HS3.out.row.cell 2 _ rfl
  have c3 := HS3.out.row.cell 3 _ rfl
  have c4 := HS3.out.row.cell 4 _ rfl
  have c5 := HS3.out.row.cell 5 _ rfl
  have cf := HS3.out.row.free
  have hg := HS3.out.row.lt
  have cx := HS3.out.box
  have hbx := HS3.out.bl
  have hne := HS3.out.ne
  have hne' := HS3.out.ne'
  refine wp_region_ext_tail 5 (by kernel_rfl) (by kernel_rfl) ?_
  simp only [List.take_succ_cons, List.take_zero, List.drop_succ_cons, List.drop_zero]
  repeat (go_big_quiet_step (fail))
  refine wpQuiet_nil ?_
  intro v4 hv4
  replace hv4 := ext_below hv4
  have HR4 := Lib.hid (HS3.out.below hv4)
  clear c0 c1 c2 c3 c4 c5 cf hg cx hbx hne hne'
  have c0 := HR4.out.row.cell 0 _ rfl
  have c1 := HR4.out.row.cell 1 _ rfl
  have c2 := HR4.out.row.cell 2 _ rfl
  have c3 := HR4.out.row.cell 3 _ rfl
  have c4 := HR4.out.row.cell 4 _ rfl
  have c5 := HR4.out.row.cell 5 _ rfl
  have cf := HR4.out.row.free
  have hg := HR4.out.row.lt
  have cx := HR4.out.box
  have hbx := HR4.out.bl
  have hne := HR4.out.ne
  have hne' := HR4.out.ne'
  go_upto_region 20 with (fail)
  refine wp_name fun W5 hW5 => ?_
  have HS5 : Hid (St w W5 g w.heap.size _ n k) := Lib.hid (by rw [hW5.out]; exact HR4.out.set 5 (tpQ (e) pt))
  clear c0 c1 c2 c3 c4 c5 cf hg cx hbx hne hne' hW5 HR4 hv4
  have c0 := HS5.out.row.cell 0 _ rfl
  have c1 := HS5.out.row.cell 1 _ rfl
  have c2 := HS5.out.row.cell 2 _ rfl
  have c3 := HS5.out.row.cell 3 _ rfl
  have c4 := HS5.out.row.cell 4 _ rfl
  have c5 := HS5.out.row.cell 5 _ rfl
  have cf := HS5.out.row.free
  have hg := HS5.out.row.lt
  have cx := HS5.out.box
  have hbx := HS5.out.bl
  have hne := HS5.out.ne
  have hne' := HS5.out.ne'
  go_wp2_with fail
  refine (up_any w.heap.size g n k pt (e) _ hbx hne hg (by omega) cx c1 c3 cf hpb.2 (by omega)).mono ?_
  rintro x u6 ⟨⟨v, rfl⟩, hbut, hf3, hc3, hc⟩
  have HU6 := Lib.hid (HS5.out.up hbut hf3 hc3 hc)
  clear c0 c1 c2 c3 c4 c5 cf hg cx hbx hne hne' hbut hf3 hc3 hc
  have c0 := HU6.out.row.cell 0 _ rfl
  have c1 := HU6.out.row.cell 1 _ rfl
  have c2 := HU6.out.row.cell 2 _ rfl
  have c3 := HU6.out.row.cell 3 _ rfl
  have c4 := HU6.out.row.cell 4 _ rfl
  have c5 := HU6.out.row.cell 5 _ rfl
  have cf := HU6.out.row.free
  have hg := HU6.out.row.lt
  have cx := HU6.out.box
  have hbx := HU6.out.bl
  have hne := HU6.out.ne
  have hne' := HU6.out.ne'
  go_upto_region 21 with (fail)
  refine wp_region_ext_tail 7 (by kernel_rfl) (by kernel_rfl) ?_
  simp only [List.take_succ_cons, List.take_zero, List.drop_succ_cons, List.drop_zero]
  repeat (go_big_quiet_step ((go_at_call 18; exact ext_same (truth_any _ _))))
  refine wpQuiet_nil ?_
  intro v7 hv7
  replace hv7 := ext_below hv7
  have HR7 := Lib.hid (HU6.out.below hv7)
  clear c0 c1 c2 c3 c4 c5 cf hg cx hbx hne hne'
  have c0 := HR7.out.row.cell 0 _ rfl
  have c1 := HR7.out.row.cell 1 _ rfl
  have c2 := HR7.out.row.cell 2 _ rfl
  have c3 := HR7.out.row.cell 3 _ rfl
  have c4 := HR7.out.row.cell 4 _ rfl
  have c5 := HR7.out.row.cell 5 _ rfl
  have cf := HR7.out.row.free
  have hg := HR7.out.row.lt
  have cx := HR7.out.box
  have hbx := HR7.out.bl
  have hne := HR7.out.ne
  have hne' := HR7.out.ne'
  clear hv7
  go_wp2
  refine bodyPost_end (results_none rfl _ _ _) rfl ⟨⟨_, rfl⟩, ?_, ?_⟩
  · exact (HR7.out.set 4 (1)).but
  · exact (HR7.out.set 4 (1)).row

set_option maxRecDepth 100000 in
set_option maxHeartbeats 2000000 in
theorem tp_run1 (a p r pt q e : Int) (g n k : Nat) (w : World) (ha : ¬ a = 0) (hp : ¬ p = 0) (hr : ¬ r = 0) (hn : 6 ≤ n) (h : Row w g [a, pt, q, e, p, r]) (hpb : -9223372036854775808 ≤ pt ∧ pt ≤ 9223372036854775807) (heb : -9223372036854775808 ≤ e) :
    Calls Tryd.prog 16 #[.int .i64 12, .slice (some ⟨g, 0, none⟩) n k] w fun x w' => (∃ v, x = .returned v) ∧ But g w w' ∧ Row w' g [a, pt, tpQ e pt, upI e pt, 1, tpQ e pt] := by
  have i0 : (0 : Int) < (n : Int) := by omega
  have i1 : (1 : Int) < (n : Int) := by omega
  have i2 : (2 : Int) < (n : Int) := by omega
  have i3 : (3 : Int) < (n : Int) := by omega
  have i4 : (4 : Int) < (n : Int) := by omega
  have i5 : (5 : Int) < (n : Int) := by omega
  have H0 := Lib.hid h
  have c0 := h.cell 0 _ rfl
  have c1 := h.cell 1 _ rfl
  have c2 := h.cell 2 _ rfl
  have c3 := h.cell 3 _ rfl
  have c4 := h.cell 4 _ rfl
  have c5 := h.cell 5 _ rfl
  have cf := h.free
  have hg := h.lt
  have hne : ¬ w.heap.size = g := by omega
  have hne' : ¬ g = w.heap.size := by omega
  have hab : (a != 0) = true := by simp [ha]
  have cx := True.intro
  have hbx := True.intro
  go_enter Tryd.func16, Tryd.ntmps16
  go_upto_region 18 with (fail)
  refine wp_name fun W1 hW1 => ?_
  have HS1 : Hid (St w W1 g w.heap.size _ n k) := Lib.hid (by rw [hW1.out]; exact St.start H0.out)
  clear c0 c1 c2 c3 c4 c5 cf hg cx hbx hne hne' hW1 
  have c0 := HS1.out.row.cell 0 _ rfl
  have c1 := HS1.out.row.cell 1 _ rfl
  have c2 := HS1.out.row.cell 2 _ rfl
  have c3 := HS1.out.row.cell 3 _ rfl
  have c4 := HS1.out.row.cell 4 _ rfl
  have c5 := HS1.out.row.cell 5 _ rfl
  have cf := HS1.out.row.free
  have hg := HS1.out.row.lt
  have cx := HS1.out.box
  have hbx := HS1.out.bl
  have hne := HS1.out.ne
  have hne' := HS1.out.ne'
  refine wp_region_ext_tail 10 (by kernel_rfl) (by kernel_rfl) ?_
  simp only [List.take_succ_cons, List.take_zero, List.drop_succ_cons, List.drop_zero]
  repeat (go_big_quiet_step ((go_at_call 18; exact ext_same (truth_any _ _))))
  refine wpQuiet_nil ?_
  intro v2 hv2
  replace hv2 := ext_below hv2
  have HR2 := Lib.hid (HS1.out.below hv2)
  clear c0 c1 c2 c3 c4 c5 cf hg cx hbx hne hne'
  have c0 := HR2.out.row.cell 0 _ rfl
  have c1 := HR2.out.row.cell 1 _ rfl
  have c2 := HR2.out.row.cell 2 _ rfl
  have c3 := HR2.out.row.cell 3 _ rfl
  have c4 := HR2.out.row.cell 4 _ rfl
  have c5 := HR2.out.row.cell 5 _ rfl
  have cf := HR2.out.row.free
  have hg := HR2.out.row.lt
  have cx := HR2.out.box
  have hbx := HR2.out.bl
  have hne := HR2.out.ne
  have hne' := HR2.out.ne'
  go_upto_region 19 with (fail)
  refine wp_name fun W3 hW3 => ?_
  have HS3 : Hid (St w W3 g w.heap.size _ n k) := Lib.hid (by rw [hW3.out]; exact HR2.out.set 2 (tpQ (e) pt))
  clear c0 c1 c2 c3 c4 c5 cf hg cx hbx hne hne' hW3 HR2 hv2
  have c0 := HS3.out.row.cell 0 _ rfl
  have c1 := HS3.out.row.cell 1 _ rfl
  have c2 := HS3.out.row.cell 2 _ rfl
  have c3 := HS3.out.row.cell 3 _ rfl
  have c4 := HS3.out.row.cell 4 _ rfl
  have c5 := HS3.out.row.cell 5 _ rfl
  have cf := HS3.out.row.free
  have hg := HS3.out.row.lt
  have cx := HS3.out.box
  have hbx := HS3.out.bl
  have hne := HS3.out.ne
  have hne' := HS3.out.ne'
  refine wp_region_ext_tail 5 (by kernel_rfl) (by kernel_rfl) ?_
  simp only [List.take_succ_cons, List.take_zero, List.drop_succ_cons, List.drop_zero]
  repeat (go_big_quiet_step (fail))
  refine wpQuiet_nil ?_
  intro v4 hv4
  replace hv4 := ext_below hv4
  have HR4 := Lib.hid (HS3.out.below hv4)
  clear c0 c1 c2 c3 c4 c5 cf hg cx hbx hne hne'
  have c0 := HR4.out.row.cell 0 _ rfl
  have c1 := HR4.out.row.cell 1 _ rfl
  have c2 := HR4.out.row.cell 2 _ rfl
  have c3 := HR4.out.row.cell 3 _ rfl
  have c4 := HR4.out.row.cell 4 _ rfl
  have c5 := HR4.out.row.cell 5 _ rfl
  have cf := HR4.out.row.free
  have hg := HR4.out.row.lt
  have cx := HR4.out.box
  have hbx := HR4.out.bl
  have hne := HR4.out.ne
  have hne' := HR4.out.ne'
  go_upto_region 20 with (fail)
  refine wp_name fun W5 hW5 => ?_
  have HS5 : Hid (St w W5 g w.heap.size _ n k) := Lib.hid (by rw [hW5.out]; exact HR4.out.set 5 (tpQ (e) pt))
  clear c0 c1 c2 c3 c4 c5 cf hg cx hbx hne hne' hW5 HR4 hv4
  have c0 := HS5.out.row.cell 0 _ rfl
  have c1 := HS5.out.row.cell 1 _ rfl
  have c2 := HS5.out.row.cell 2 _ rfl
  have c3 := HS5.out.row.cell 3 _ rfl
  have c4 := HS5.out.row.cell 4 _ rfl
  have c5 := HS5.out.row.cell 5 _ rfl
  have cf := HS5.out.row.free
  have hg := HS5.out.row.lt
  have cx := HS5.out.box
  have hbx := HS5.out.bl
  have hne := HS5.out.ne
  have hne' := HS5.out.ne'
  go_wp2_with fail
  refine (up_any w.heap.size g n k pt (e) _ hbx hne hg (by omega) cx c1 c3 cf hpb.2 (by omega)).mono ?_
  rintro x u6 ⟨⟨v, rfl⟩, hbut, hf3, hc3, hc⟩
  have HU6 := Lib.hid (HS5.out.up hbut hf3 hc3 hc)
  clear c0 c1 c2 c3 c4 c5 cf hg cx hbx hne hne' hbut hf3 hc3 hc
  have c0 := HU6.out.row.cell 0 _ rfl
  have c1 := HU6.out.row.cell 1 _ rfl
  have c2 := HU6.out.row.cell 2 _ rfl
  have c3 := HU6.out.row.cell 3 _ rfl
  have c4 := HU6.out.row.cell 4 _ rfl
  have c5 := HU6.out.row.cell 5 _ rfl
  have cf := HU6.out.row.free
  have hg := HU6.out.row.lt
  have cx := HU6.out.box
  have hbx := HU6.out.bl
  have hne := HU6.out.ne
  have hne' := HU6.out.ne'
  go_upto_region 21 with (fail)
  refine wp_region_ext_tail 7 (by kernel_rfl) (by kernel_rfl) ?_
  simp only [List.take_succ_cons, List.take_zero, List.drop_succ_cons, List.drop_zero]
  repeat (go_big_quiet_step ((go_at_call 18; exact ext_same (truth_any _ _))))
  refine wpQuiet_nil ?_
  intro v7 hv7
  replace hv7 := ext_below hv7
  have HR7 := Lib.hid (HU6.out.below hv7)
  clear c0 c1 c2 c3 c4 c5 cf hg cx hbx hne hne'
  have c0 := HR7.out.row.cell 0 _ rfl
  have c1 := HR7.out.row.cell 1 _ rfl
  have c2 := HR7.out.row.cell 2 _ rfl
  have c3 := HR7.out.row.cell 3 _ rfl
  have c4 := HR7.out.row.cell 4 _ rfl
  have c5 := HR7.out.row.cell 5 _ rfl
  have cf := HR7.out.row.free
  have hg := HR7.out.row.lt
  have cx := HR7.out.box
  have hbx := HR7.out.bl
  have hne := HR7.out.ne
  have hne' := HR7.out.ne'
  clear hv7
  go_wp2
  refine bodyPost_end (results_none rfl _ _ _) rfl ⟨⟨_, rfl⟩, ?_, ?_⟩
  · exact (HR7.out.set 4 (1)).but
  · exact (HR7.out.set 4 (1)).row

set_option maxRecDepth 100000 in
set_option maxHeartbeats 2000000 in
theorem tp_rise (a pt q e : Int) (g n k : Nat) (w : World) (ha : ¬ a = 0) (hn : 6 ≤ n) (h : Row w g [a, pt, q, e, 0, 0]) (hpb : -9223372036854775808 ≤ pt ∧ pt ≤ 9223372036854775807) (heb : -9223372036854775808 ≤ e) :
    Calls Tryd.prog 16 #[.int .i64 12, .slice (some ⟨g, 0, none⟩) n k] w fun x w' => (∃ v, x = .returned v) ∧ But g w w' ∧ Row w' g [a, pt, tpQ 0 pt, upI 0 pt, 1, tpQ 0 pt] := by
  have i0 : (0 : Int) < (n : Int) := by omega
  have i1 : (1 : Int) < (n : Int) := by omega
  have i2 : (2 : Int) < (n : Int) := by omega
  have i3 : (3 : Int) < (n : Int) := by omega
  have i4 : (4 : Int) < (n : Int) := by omega
  have i5 : (5 : Int) < (n : Int) := by omega
  have H0 := Lib.hid h
  have c0 := h.cell 0 _ rfl
  have c1 := h.cell 1 _ rfl
  have c2 := h.cell 2 _ rfl
  have c3 := h.cell 3 _ rfl
  have c4 := h.cell 4 _ rfl
  have c5 := h.cell 5 _ rfl
  have cf := h.free
  have hg := h.lt
  have hne : ¬ w.heap.size = g := by omega
  have hne' : ¬ g = w.heap.size := by omega
  have hab : (a != 0) = true := by simp [ha]
  have cx := True.intro
  have hbx := True.intro
  go_enter Tryd.func16, Tryd.ntmps16
  go_upto_region 16 with (fail)
  refine wp_name fun W1 hW1 => ?_
  have HS1 : Hid (St w W1 g w.heap.size _ n k) := Lib.hid (by rw [hW1.out]; exact St.start H0.out)
  clear c0 c1 c2 c3 c4 c5 cf hg cx hbx hne hne' hW1 
  have c0 := HS1.out.row.cell 0 _ rfl
  have c1 := HS1.out.row.cell 1 _ rfl
  have c2 := HS1.out.row.cell 2 _ rfl
  have c3 := HS1.out.row.cell 3 _ rfl
  have c4 := HS1.out.row.cell 4 _ rfl
  have c5 := HS1.out.row.cell 5 _ rfl
  have cf := HS1.out.row.free
  have hg := HS1.out.row.lt
  have cx := HS1.out.box
  have hbx := HS1.out.bl
  have hne := HS1.out.ne
  have hne' := HS1.out.ne'
  go_region
  go_upto_region 18 with (fail)
  refine wp_name fun W2 hW2 => ?_
  have HS2 : Hid (St w W2 g w.heap.size _ n k) := Lib.hid (by rw [hW2.out]; exact ((HS1.out.set 5 1).set 3 0).drew)
  clear c0 c1 c2 c3 c4 c5 cf hg cx hbx hne hne' hW2 HS1
  have c0 := HS2.out.row.cell 0 _ rfl
  have c1 := HS2.out.row.cell 1 _ rfl
  have c2 := HS2.out.row.cell 2 _ rfl
  have c3 := HS2.out.row.cell 3 _ rfl
  have c4 := HS2.out.row.cell 4 _ rfl
  have c5 := HS2.out.row.cell 5 _ rfl
  have cf := HS2.out.row.free
  have hg := HS2.out.row.lt
  have cx := HS2.out.box
  have hbx := HS2.out.bl
  have hne := HS2.out.ne
  have hne' := HS2.out.ne'
  refine wp_region_ext_tail 10 (by kernel_rfl) (by kernel_rfl) ?_
  simp only [List.take_succ_cons, List.take_zero, List.drop_succ_cons, List.drop_zero]
  repeat (go_big_quiet_step ((go_at_call 18; exact ext_same (truth_any _ _))))
  refine wpQuiet_nil ?_
  intro v3 hv3
  replace hv3 := ext_below hv3
  have HR3 := Lib.hid (HS2.out.below hv3)
  clear c0 c1 c2 c3 c4 c5 cf hg cx hbx hne hne'
  have c0 := HR3.out.row.cell 0 _ rfl
  have c1 := HR3.out.row.cell 1 _ rfl
  have c2 := HR3.out.row.cell 2 _ rfl
  have c3 := HR3.out.row.cell 3 _ rfl
  have c4 := HR3.out.row.cell 4 _ rfl
  have c5 := HR3.out.row.cell 5 _ rfl
  have cf := HR3.out.row.free
  have hg := HR3.out.row.lt
  have cx := HR3.out.box
  have hbx := HR3.out.bl
  have hne := HR3.out.ne
  have hne' := HR3.out.ne'
  go_upto_region 19 with (fail)
  refine wp_name fun W4 hW4 => ?_
  have HS4 : Hid (St w W4 g w.heap.size _ n k) := Lib.hid (by rw [hW4.out]; exact HR3.out.set 2 (tpQ (0) pt))
  clear c0 c1 c2 c3 c4 c5 cf hg cx hbx hne hne' hW4 HR3 hv3
  have c0 := HS4.out.row.cell 0 _ rfl
  have c1 := HS4.out.row.cell 1 _ rfl
  have c2 := HS4.out.row.cell 2 _ rfl
  have c3 := HS4.out.row.cell 3 _ rfl
  have c4 := HS4.out.row.cell 4 _ rfl
  have c5 := HS4.out.row.cell 5 _ rfl
  have cf := HS4.out.row.free
  have hg := HS4.out.row.lt
  have cx := HS4.out.box
  have hbx := HS4.out.bl
  have hne := HS4.out.ne
  have hne' := HS4.out.ne'
  refine wp_region_ext_tail 5 (by kernel_rfl) (by kernel_rfl) ?_
  simp only [List.take_succ_cons, List.take_zero, List.drop_succ_cons, List.drop_zero]
  repeat (go_big_quiet_step (fail))
  refine wpQuiet_nil ?_
  intro v5 hv5
  replace hv5 := ext_below hv5
  have HR5 := Lib.hid (HS4.out.below hv5)
  clear c0 c1 c2 c3 c4 c5 cf hg cx hbx hne hne'
  have c0 := HR5.out.row.cell 0 _ rfl
  have c1 := HR5.out.row.cell 1 _ rfl
  have c2 := HR5.out.row.cell 2 _ rfl
  have c3 := HR5.out.row.cell 3 _ rfl
  have c4 := HR5.out.row.cell 4 _ rfl
  have c5 := HR5.out.row.cell 5 _ rfl
  have cf := HR5.out.row.free
  have hg := HR5.out.row.lt
  have cx := HR5.out.box
  have hbx := HR5.out.bl
  have hne := HR5.out.ne
  have hne' := HR5.out.ne'
  go_upto_region 20 with (fail)
  refine wp_name fun W6 hW6 => ?_
  have HS6 : Hid (St w W6 g w.heap.size _ n k) := Lib.hid (by rw [hW6.out]; exact HR5.out.set 5 (tpQ (0) pt))
  clear c0 c1 c2 c3 c4 c5 cf hg cx hbx hne hne' hW6 HR5 hv5
  have c0 := HS6.out.row.cell 0 _ rfl
  have c1 := HS6.out.row.cell 1 _ rfl
  have c2 := HS6.out.row.cell 2 _ rfl
  have c3 := HS6.out.row.cell 3 _ rfl
  have c4 := HS6.out.row.cell 4 _ rfl
  have c5 := HS6.out.row.cell 5 _ rfl
  have cf := HS6.out.row.free
  have hg := HS6.out.row.lt
  have cx := HS6.out.box
  have hbx := HS6.out.bl
  have hne := HS6.out.ne
  have hne' := HS6.out.ne'
  go_wp2_with fail
  refine (up_any w.heap.size g n k pt (0) _ hbx hne hg (by omega) cx c1 c3 cf hpb.2 (by omega)).mono ?_
  rintro x u7 ⟨⟨v, rfl⟩, hbut, hf3, hc3, hc⟩
  have HU7 := Lib.hid (HS6.out.up hbut hf3 hc3 hc)
  clear c0 c1 c2 c3 c4 c5 cf hg cx hbx hne hne' hbut hf3 hc3 hc
  have c0 := HU7.out.row.cell 0 _ rfl
  have c1 := HU7.out.row.cell 1 _ rfl
  have c2 := HU7.out.row.cell 2 _ rfl
  have c3 := HU7.out.row.cell 3 _ rfl
  have c4 := HU7.out.row.cell 4 _ rfl
  have c5 := HU7.out.row.cell 5 _ rfl
  have cf := HU7.out.row.free
  have hg := HU7.out.row.lt
  have cx := HU7.out.box
  have hbx := HU7.out.bl
  have hne := HU7.out.ne
  have hne' := HU7.out.ne'
  go_upto_region 21 with (fail)
  refine wp_region_ext_tail 7 (by kernel_rfl) (by kernel_rfl) ?_
  simp only [List.take_succ_cons, List.take_zero, List.drop_succ_cons, List.drop_zero]
  repeat (go_big_quiet_step ((go_at_call 18; exact ext_same (truth_any _ _))))
  refine wpQuiet_nil ?_
  intro v8 hv8
  replace hv8 := ext_below hv8
  have HR8 := Lib.hid (HU7.out.below hv8)
  clear c0 c1 c2 c3 c4 c5 cf hg cx hbx hne hne'
  have c0 := HR8.out.row.cell 0 _ rfl
  have c1 := HR8.out.row.cell 1 _ rfl
  have c2 := HR8.out.row.cell 2 _ rfl
  have c3 := HR8.out.row.cell 3 _ rfl
  have c4 := HR8.out.row.cell 4 _ rfl
  have c5 := HR8.out.row.cell 5 _ rfl
  have cf := HR8.out.row.free
  have hg := HR8.out.row.lt
  have cx := HR8.out.box
  have hbx := HR8.out.bl
  have hne := HR8.out.ne
  have hne' := HR8.out.ne'
  clear hv8
  go_wp2
  refine bodyPost_end (results_none rfl _ _ _) rfl ⟨⟨_, rfl⟩, ?_, ?_⟩
  · exact (HR8.out.set 4 (1)).but
  · exact (HR8.out.set 4 (1)).row

end Go.Proofs.YtedmhafpaielmaaDoor
