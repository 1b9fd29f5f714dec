/- Layer 12, the reference: a command is added. -/
import Derived.Test.YtddakmlnkffgiaaLineRD
namespace Go.Proofs.Ytddakmlnkffgiaa
open Go.RowKit
set_option linter.unusedVariables false
set_option linter.unusedSimpArgs false
attribute [local go_sem] ite_max ite_min vite_max vite_min ext_cell ext_frozen extS_cell extS_frozen

set_option maxRecDepth 100000 in
set_option maxHeartbeats 1000000 in
theorem radd_noline (ns ws : List CmdS) (v : Value) (base : Nat) (x : CmdS) (w : World) (h : LineV w base ns ws v) (g1 : ns.length ≤ 400) (g2 : ws.length ≤ 400) (hr : lineB ns ws = false) :
    Calls Try.prog 34 #[v, x.val] w fun e w' => AddPost w [] [] [] 1 e w' := by
  obtain ⟨a, b, rfl⟩ := h.form
  have HL := Lib.hid h
  have HR := Lib.hid hr
  obtain ⟨x0, x1, x2, x3, x4, x5, x6⟩ := x
  simp only [CmdS.val]
  clear h hr
  go_enter Try.func34, Try.ntmps34
  go_wp2_with fail
  refine (rright_at ns ws _ base false _ (HL.out.below ?b1) g1 g2 HR.out).mono ?_
  case b1 => (repeat' (first | (with_reducible exact Below.refl _ _) | (with_reducible assumption) | (with_reducible refine below_drewN ?_ _) | (with_reducible refine Below.drew ?_) | (with_reducible refine below_new ?_ (Nat.le_refl _) _) | (with_reducible refine Below.setCell ?_ ?_ _) | (with_reducible refine below_go ?_ (by assumption) (Nat.le_refl _)) | (simp; done) | (simp; omega) | omega))
  rintro e w1 ⟨rfl, hb1⟩
  obtain ⟨hb1c, hb1f⟩ := bcell hb1
  have hb1z := hb1.size
  have hb1c0 := fun o => hb1c (w.heap.size) o (by first | (simp; done) | (simp; omega) | (simp at *; omega) | omega)
  have hb1f0 := fun o => hb1f (w.heap.size) o (by first | (simp; done) | (simp; omega) | (simp at *; omega) | omega)
  have hb1l0 := below_lt (b := w.heap.size) hb1 (by first | (simp; done) | (simp; omega) | (simp at *; omega) | omega)
  have hb1c1 := fun o => hb1c (w.heap.size + 1) o (by first | (simp; done) | (simp; omega) | (simp at *; omega) | omega)
  have hb1f1 := fun o => hb1f (w.heap.size + 1) o (by first | (simp; done) | (simp; omega) | (simp at *; omega) | omega)
  have hb1l1 := below_lt (b := w.heap.size + 1) hb1 (by first | (simp; done) | (simp; omega) | (simp at *; omega) | omega)
  have hb1c2 := fun o => hb1c (w.heap.size + 2) o (by first | (simp; done) | (simp; omega) | (simp at *; omega) | omega)
  have hb1f2 := fun o => hb1f (w.heap.size + 2) o (by first | (simp; done) | (simp; omega) | (simp at *; omega) | omega)
  have hb1l2 := below_lt (b := w.heap.size + 2) hb1 (by first | (simp; done) | (simp; omega) | (simp at *; omega) | omega)
  have hB1 : Below w.heap.size w w1 := by (repeat' (first | (with_reducible exact Below.refl _ _) | (with_reducible assumption) | (with_reducible refine below_drewN ?_ _) | (with_reducible refine Below.drew ?_) | (with_reducible refine below_new ?_ (Nat.le_refl _) _) | (with_reducible refine Below.setCell ?_ ?_ _) | (with_reducible refine below_go ?_ (by assumption) (Nat.le_refl _)) | (simp; done) | (simp; omega) | omega))
  clear hb1
  go_wp2
  exact bodyPost_ret (v := .tuple #[.agg #[.slice none 0 0, .slice none 0 0], .slice none 0 0, .int .i64 1]) (by simp [results, Try.results34, go_sem, hb1c2, hb1f2]) rfl ⟨_, _, rfl, nil_line, nil_ids, by (repeat' (first | (with_reducible exact Below.refl _ _) | (with_reducible assumption) | (with_reducible refine below_drewN ?_ _) | (with_reducible refine Below.drew ?_) | (with_reducible refine below_new ?_ (Nat.le_refl _) _) | (with_reducible refine Below.setCell ?_ ?_ _) | (with_reducible refine below_go ?_ (by assumption) (Nat.le_refl _)) | (simp; done) | (simp; omega) | omega))⟩


set_option maxRecDepth 100000 in
set_option maxHeartbeats 1000000 in
theorem radd_nomode (ns ws : List CmdS) (v : Value) (base : Nat) (x : CmdS) (w : World) (h : LineV w base ns ws v) (g1 : ns.length ≤ 400) (g2 : ws.length ≤ 400) (hr : lineB ns ws = true) (hm : modeB x.mode = false) :
    Calls Try.prog 34 #[v, x.val] w fun e w' => AddPost w [] [] [] 1 e w' := by
  obtain ⟨a, b, rfl⟩ := h.form
  have HL := Lib.hid h
  have HR := Lib.hid hr
  have hmd := modeB_no hm
  obtain ⟨x0, x1, x2, x3, x4, x5, x6⟩ := x
  simp only [CmdS.val] at hmd ⊢
  clear h hr hm
  go_enter Try.func34, Try.ntmps34
  go_wp2_with fail
  refine (rright_at ns ws _ base true _ (HL.out.below ?b1) g1 g2 HR.out).mono ?_
  case b1 => (repeat' (first | (with_reducible exact Below.refl _ _) | (with_reducible assumption) | (with_reducible refine below_drewN ?_ _) | (with_reducible refine Below.drew ?_) | (with_reducible refine below_new ?_ (Nat.le_refl _) _) | (with_reducible refine Below.setCell ?_ ?_ _) | (with_reducible refine below_go ?_ (by assumption) (Nat.le_refl _)) | (simp; done) | (simp; omega) | omega))
  rintro e w1 ⟨rfl, hb1⟩
  obtain ⟨hb1c, hb1f⟩ := bcell hb1
  have hb1z := hb1.size
  have hb1c0 := fun o => hb1c (w.heap.size) o (by first | (simp; done) | (simp; omega) | (simp at *; omega) | omega)
  have hb1f0 := fun o => hb1f (w.heap.size) o (by first | (simp; done) | (simp; omega) | (simp at *; omega) | omega)
  have hb1l0 := below_lt (b := w.heap.size) hb1 (by first | (simp; done) | (simp; omega) | (simp at *; omega) | omega)
  have hb1c1 := fun o => hb1c (w.heap.size + 1) o (by first | (simp; done) | (simp; omega) | (simp at *; omega) | omega)
  have hb1f1 := fun o => hb1f (w.heap.size + 1) o (by first | (simp; done) | (simp; omega) | (simp at *; omega) | omega)
  have hb1l1 := below_lt (b := w.heap.size + 1) hb1 (by first | (simp; done) | (simp; omega) | (simp at *; omega) | omega)
  have hb1c2 := fun o => hb1c (w.heap.size + 2) o (by first | (simp; done) | (simp; omega) | (simp at *; omega) | omega)
  have hb1f2 := fun o => hb1f (w.heap.size + 2) o (by first | (simp; done) | (simp; omega) | (simp at *; omega) | omega)
  have hb1l2 := below_lt (b := w.heap.size + 2) hb1 (by first | (simp; done) | (simp; omega) | (simp at *; omega) | omega)
  have hB1 : Below w.heap.size w w1 := by (repeat' (first | (with_reducible exact Below.refl _ _) | (with_reducible assumption) | (with_reducible refine below_drewN ?_ _) | (with_reducible refine Below.drew ?_) | (with_reducible refine below_new ?_ (Nat.le_refl _) _) | (with_reducible refine Below.setCell ?_ ?_ _) | (with_reducible refine below_go ?_ (by assumption) (Nat.le_refl _)) | (simp; done) | (simp; omega) | omega))
  clear hb1
  rcases hmd with hx | ⟨hx, hx2⟩
  · go_wp2
    exact bodyPost_ret (v := .tuple #[.agg #[.slice none 0 0, .slice none 0 0], .slice none 0 0, .int .i64 1]) (by simp [results, Try.results34, go_sem, hb1c2, hb1f2]) rfl ⟨_, _, rfl, nil_line, nil_ids, by (repeat' (first | (with_reducible exact Below.refl _ _) | (with_reducible assumption) | (with_reducible refine below_drewN ?_ _) | (with_reducible refine Below.drew ?_) | (with_reducible refine below_new ?_ (Nat.le_refl _) _) | (with_reducible refine Below.setCell ?_ ?_ _) | (with_reducible refine below_go ?_ (by assumption) (Nat.le_refl _)) | (simp; done) | (simp; omega) | omega))⟩
  · go_wp2
    exact bodyPost_ret (v := .tuple #[.agg #[.slice none 0 0, .slice none 0 0], .slice none 0 0, .int .i64 1]) (by simp [results, Try.results34, go_sem, hb1c2, hb1f2]) rfl ⟨_, _, rfl, nil_line, nil_ids, by (repeat' (first | (with_reducible exact Below.refl _ _) | (with_reducible assumption) | (with_reducible refine below_drewN ?_ _) | (with_reducible refine Below.drew ?_) | (with_reducible refine below_new ?_ (Nat.le_refl _) _) | (with_reducible refine Below.setCell ?_ ?_ _) | (with_reducible refine below_go ?_ (by assumption) (Nat.le_refl _)) | (simp; done) | (simp; omega) | omega))⟩

set_option maxRecDepth 100000 in
set_option maxHeartbeats 1000000 in
theorem radd_full (ns ws : List CmdS) (v : Value) (base : Nat) (x : CmdS) (w : World) (h : LineV w base ns ws v) (g1 : ns.length ≤ 400) (g2 : ws.length ≤ 400) (hr : lineB ns ws = true) (hm : modeB x.mode = true) (h0 : x.mode ≠ 0) (h4 : ws.length = 4) :
    Calls Try.prog 34 #[v, x.val] w fun e w' => AddPost w [] [] [] 8 e w' := by
  have HL := Lib.hid h
  obtain ⟨a, b, rfl, ⟨A, c, rfl, q1, q2, -⟩, ⟨D, d, rfl, q3, q4, -⟩⟩ := h
  have HR := Lib.hid hr
  have hmd : 0 ≤ x.mode ∧ x.mode ≤ 5 := by
    unfold modeB at hm
    simpa using hm
  have hns : ns.length = 1 := by
    have := lineB_yes hr
    omega
  have hlen : (ns ++ ws).length = 5 := by rw [List.length_append, hns, h4]
  obtain ⟨x0, x1, x2, x3, x4, x5, x6⟩ := x
  simp only [CmdS.val] at hmd h0 ⊢
  obtain ⟨hm1, hm2⟩ := hmd
  have hb0 : (x4 == 0) = false := by simpa using h0
  have HLEN := Lib.hid hlen
  rw [h4] at HL g2 ⊢
  rw [hns] at HL g1 ⊢
  have HG := Lib.hid (And.intro hns h4)
  clear hr hm h0 h4 hns hlen
  go_enter Try.func34, Try.ntmps34
  go_wp2_with fail
  refine (rright_at ns ws _ base true _ (HL.out.below ?b1) (by rw [HG.out.1]; omega) (by rw [HG.out.2]; omega) HR.out).mono ?_
  case b1 => (repeat' (first | (with_reducible exact Below.refl _ _) | (with_reducible assumption) | (with_reducible refine below_drewN ?_ _) | (with_reducible refine Below.drew ?_) | (with_reducible refine below_new ?_ (Nat.le_refl _) _) | (with_reducible refine Below.setCell ?_ ?_ _) | (with_reducible refine below_go ?_ (by assumption) (Nat.le_refl _)) | (simp; done) | (simp; omega) | omega))
  rintro e w1 ⟨rfl, hb1⟩
  obtain ⟨hb1c, hb1f⟩ := bcell hb1
  have hb1z := hb1.size
  have hb1c0 := fun o => hb1c (w.heap.size) o (by first | (simp; done) | (simp; omega) | (simp at *; omega) | omega)
  have hb1f0 := fun o => hb1f (w.heap.size) o (by first | (simp; done) | (simp; omega) | (simp at *; omega) | omega)
  have hb1l0 := below_lt (b := w.heap.size) hb1 (by first | (simp; done) | (simp; omega) | (simp at *; omega) | omega)
  have hb1c1 := fun o => hb1c (w.heap.size + 1) o (by first | (simp; done) | (simp; omega) | (simp at *; omega) | omega)
  have hb1f1 := fun o => hb1f (w.heap.size + 1) o (by first | (simp; done) | (simp; omega) | (simp at *; omega) | omega)
  have hb1l1 := below_lt (b := w.heap.size + 1) hb1 (by first | (simp; done) | (simp; omega) | (simp at *; omega) | omega)
  have hb1c2 := fun o => hb1c (w.heap.size + 2) o (by first | (simp; done) | (simp; omega) | (simp at *; omega) | omega)
  have hb1f2 := fun o => hb1f (w.heap.size + 2) o (by first | (simp; done) | (simp; omega) | (simp at *; omega) | omega)
  have hb1l2 := below_lt (b := w.heap.size + 2) hb1 (by first | (simp; done) | (simp; omega) | (simp at *; omega) | omega)
  have hB1 : Below w.heap.size w w1 := by (repeat' (first | (with_reducible exact Below.refl _ _) | (with_reducible assumption) | (with_reducible refine below_drewN ?_ _) | (with_reducible refine Below.drew ?_) | (with_reducible refine below_new ?_ (Nat.le_refl _) _) | (with_reducible refine Below.setCell ?_ ?_ _) | (with_reducible refine below_go ?_ (by assumption) (Nat.le_refl _)) | (simp; done) | (simp; omega) | omega))
  clear hb1
  go_wp2_with fail
  refine (rlist_at ns ws _ base _ (HL.out.below hB1) (by rw [HG.out.1]; omega) (by rw [HG.out.2]; omega)).mono ?_
  rintro e w2 ⟨⟨v9, rfl, ho⟩, hb2⟩
  obtain ⟨A9, c9, rfl, -⟩ := own_form ho
  rw [HLEN.out]
  clear ho
  obtain ⟨hb2c, hb2f⟩ := bcell hb2
  have hb2z := hb2.size
  have hb2c0 := fun o => hb2c (w.heap.size) o (by first | (simp; done) | (simp; omega) | (simp at *; omega) | omega)
  have hb2f0 := fun o => hb2f (w.heap.size) o (by first | (simp; done) | (simp; omega) | (simp at *; omega) | omega)
  have hb2l0 := below_lt (b := w.heap.size) hb2 (by first | (simp; done) | (simp; omega) | (simp at *; omega) | omega)
  have hb2c1 := fun o => hb2c (w.heap.size + 1) o (by first | (simp; done) | (simp; omega) | (simp at *; omega) | omega)
  have hb2f1 := fun o => hb2f (w.heap.size + 1) o (by first | (simp; done) | (simp; omega) | (simp at *; omega) | omega)
  have hb2l1 := below_lt (b := w.heap.size + 1) hb2 (by first | (simp; done) | (simp; omega) | (simp at *; omega) | omega)
  have hb2c2 := fun o => hb2c (w.heap.size + 2) o (by first | (simp; done) | (simp; omega) | (simp at *; omega) | omega)
  have hb2f2 := fun o => hb2f (w.heap.size + 2) o (by first | (simp; done) | (simp; omega) | (simp at *; omega) | omega)
  have hb2l2 := below_lt (b := w.heap.size + 2) hb2 (by first | (simp; done) | (simp; omega) | (simp at *; omega) | omega)
  go_wp2
  exact bodyPost_ret (v := .tuple #[.agg #[.slice none 0 0, .slice none 0 0], .slice none 0 0, .int .i64 8]) (by simp [results, Try.results34, go_sem, hb1c2, hb1f2, hb2c2, hb2f2]) rfl ⟨_, _, rfl, nil_line, nil_ids, by (repeat' (first | (with_reducible exact Below.refl _ _) | (with_reducible assumption) | (with_reducible refine below_drewN ?_ _) | (with_reducible refine Below.drew ?_) | (with_reducible refine below_new ?_ (Nat.le_refl _) _) | (with_reducible refine Below.setCell ?_ ?_ _) | (with_reducible refine below_go ?_ (by assumption) (Nat.le_refl _)) | (simp; done) | (simp; omega) | omega))⟩

set_option maxRecDepth 100000 in
set_option maxHeartbeats 4000000 in
theorem radd_abort (ns ws : List CmdS) (v : Value) (base : Nat) (x : CmdS) (w : World) (h : LineV w base ns ws v) (g1 : ns.length ≤ 400) (g2 : ws.length ≤ 400) (hr : lineB ns ws = true) (h0 : x.mode = 0) :
    Calls Try.prog 34 #[v, x.val] w fun e w' => AddPost w [x] [] (ns ++ ws) 0 e w' := by
  have HL := Lib.hid h
  have hy := lineB_yes hr
  have hlens : ns.length ≤ 1 ∧ ws.length ≤ 4 := ⟨hy.1, hy.2.1⟩
  obtain ⟨a, b, rfl⟩ := h.form
  have HR := Lib.hid hr
  obtain ⟨x0, x1, x2, x3, x4, x5, x6⟩ := x
  simp only [CmdS.val] at h0 ⊢
  subst h0
  clear hr hy h
  go_enter Try.func34, Try.ntmps34
  go_wp2_with fail
  refine (rright_at ns ws _ base true _ (HL.out.below ?b1) g1 g2 HR.out).mono ?_
  case b1 => (repeat' (first | (with_reducible exact Below.refl _ _) | (with_reducible assumption) | (with_reducible refine below_drewN ?_ _) | (with_reducible refine Below.drew ?_) | (with_reducible refine below_new ?_ (Nat.le_refl _) _) | (with_reducible refine Below.setCell ?_ ?_ _) | (with_reducible refine below_go ?_ (by assumption) (Nat.le_refl _)) | (simp; done) | (simp; omega) | omega))
  rintro e w1 ⟨rfl, hb1⟩
  obtain ⟨hb1c, hb1f⟩ := bcell hb1
  have hb1z := hb1.size
  have hb1c0 := fun o => hb1c (w.heap.size) o (by first | (simp; done) | (simp; omega) | (simp at *; omega) | omega)
  have hb1f0 := fun o => hb1f (w.heap.size) o (by first | (simp; done) | (simp; omega) | (simp at *; omega) | omega)
  have hb1l0 := below_lt (b := w.heap.size) hb1 (by first | (simp; done) | (simp; omega) | (simp at *; omega) | omega)
  have hb1c1 := fun o => hb1c (w.heap.size + 1) o (by first | (simp; done) | (simp; omega) | (simp at *; omega) | omega)
  have hb1f1 := fun o => hb1f (w.heap.size + 1) o (by first | (simp; done) | (simp; omega) | (simp at *; omega) | omega)
  have hb1l1 := below_lt (b := w.heap.size + 1) hb1 (by first | (simp; done) | (simp; omega) | (simp at *; omega) | omega)
  have hb1c2 := fun o => hb1c (w.heap.size + 2) o (by first | (simp; done) | (simp; omega) | (simp at *; omega) | omega)
  have hb1f2 := fun o => hb1f (w.heap.size + 2) o (by first | (simp; done) | (simp; omega) | (simp at *; omega) | omega)
  have hb1l2 := below_lt (b := w.heap.size + 2) hb1 (by first | (simp; done) | (simp; omega) | (simp at *; omega) | omega)
  have hB2 : Below w.heap.size w w1 := by (repeat' (first | (with_reducible exact Below.refl _ _) | (with_reducible assumption) | (with_reducible refine below_drewN ?_ _) | (with_reducible refine Below.drew ?_) | (with_reducible refine below_new ?_ (Nat.le_refl _) _) | (with_reducible refine Below.setCell ?_ ?_ _) | (with_reducible refine below_go ?_ (by assumption) (Nat.le_refl _)) | (simp; done) | (simp; omega) | omega))
  clear hb1
  have s0 : w1.cell? ⟨w.heap.size, 0, none⟩ = some a := by go_simp
  have s1 : w1.cell? ⟨w.heap.size, 1, none⟩ = some b := by go_simp
  have t0 : w1.cell? ⟨w.heap.size + 1, 0, none⟩ = some (.int .i64 x0) := by go_simp
  have t1 : w1.cell? ⟨w.heap.size + 1, 1, none⟩ = some (.int .i64 x1) := by go_simp
  have t2 : w1.cell? ⟨w.heap.size + 1, 2, none⟩ = some (.int .i64 x2) := by go_simp
  have t3 : w1.cell? ⟨w.heap.size + 1, 3, none⟩ = some (.int .i64 x3) := by go_simp
  have t4 : w1.cell? ⟨w.heap.size + 1, 4, none⟩ = some (.int .i64 0) := by go_simp
  have t5 : w1.cell? ⟨w.heap.size + 1, 5, none⟩ = some (.int .i64 x5) := by go_simp
  have t6 : w1.cell? ⟨w.heap.size + 1, 6, none⟩ = some (.int .i64 x6) := by go_simp
  have r0 : w1.cell? ⟨w.heap.size + 2, 0, none⟩ = some (.slice none 0 0) := by go_simp
  have r1 : w1.cell? ⟨w.heap.size + 2, 1, none⟩ = some (.slice none 0 0) := by go_simp
  have rf : ∀ o, w1.frozen? ⟨w.heap.size + 2, o, none⟩ = false := fun o => by go_simp
  have l0 : w.heap.size < w1.heap.size := by omega
  have l1 : w.heap.size + 1 < w1.heap.size := by omega
  have l2 : w.heap.size + 2 < w1.heap.size := by omega
  have HL2 := Lib.hid (HL.out.below hB2)
  clear HL HR hb1c hb1f hb1c0 hb1c1 hb1c2 hb1f0 hb1f1 hb1f2 hb1l0 hb1l1 hb1l2
  obtain ⟨W0, hW0⟩ : ∃ W0, w.heap.size + 3 = W0 := ⟨_, rfl⟩
  have hWle : W0 ≤ w1.heap.size := by omega
  have hWlt : w.heap.size + 2 < W0 := by omega
  clear hW0
  go_wp2_with fail
  refine wp_region_wild 6 1000 ([{ i := 1, d := 25, R := isReadC 1 (cmdsC [⟨x0, x1, x2, x3, 0, x5, x6⟩]) W0, N := (fun _ => []) }, { i := 2, d := 26, R := isLineV [⟨x0, x1, x2, x3, 0, x5, x6⟩] [] W0, N := (fun _ => []) }, { i := 4, d := 28, R := isOwnC (ns ++ ws).length (cmdsC (ns ++ ws)) W0, N := (fun _ => []) }, { i := 5, d := 29, R := isIdsV (ns ++ ws) W0, N := (fun _ => []) }] : List Wd) [false, true, true, false, true, true] rfl (by kernel_rfl) (by kernel_rfl) (fun _ _ _ _ _ h => h) (by kernel_rfl) ?_ ?_
  · intro x hx v w1 w2 hR hb
    simp only [List.mem_cons, List.not_mem_nil, or_false] at hx
    rcases hx with rfl | rfl | rfl | rfl
    all_goals (dsimp only at hR ⊢; exact hR.below hb)
  apply Exists.intro
  refine ⟨fun S hS hne => ?_, ?_, ?_, ?_⟩
  · simp only [List.take_succ_cons, List.take_zero, List.map_cons, List.map_nil]
    delta CS
    repeat (first | with_reducible refine mask_skip ?_ | ((with_reducible refine mask_keep ?_); go_big_quiet_step (fail)))
    exact mask_nil rfl
  · intro x hx he
    simp only [List.mem_cons, List.not_mem_nil, or_false] at hx
    rcases hx with rfl | rfl | rfl | rfl
    all_goals (dsimp only at he; exact absurd he (by decide))
  · skip
    simp only [List.forall_mem_cons, List.not_mem_nil, false_implies, implies_true, and_true]
    refine ⟨?_, ?_, ?_, ?_⟩
    all_goals
      intro o ho
      simp only [List.getElem?_cons_succ, List.getElem?_cons_zero, Option.some.injEq] at ho
      subst ho
      intro vs w' hbw hdeps
      simp only [putsF, List.foldl_cons, List.foldl_nil]
      refine ⟨by first | rfl | go_simp, ?_⟩
      first | with_reducible refine wild_plain ?_ | with_reducible refine wild_link ?_
      simp only [List.forall_mem_cons, List.not_mem_nil, false_implies, implies_true, and_true] at hdeps
      obtain ⟨dp0, dp1, dp2, dp3⟩ := hdeps
    · clear dp0 dp1 dp2 dp3
      go_simp
      have hw := hbw.size
      exact wildUpon_value ⟨read_new ⟨x0, x1, x2, x3, 0, x5, x6⟩ _ W0 (by omega) _, (Below.refl _ _).alloc (Nat.le_refl _) _, by simp⟩
    · have hr := dp0 (by decide)
      clear dp0 dp1 dp2 dp3
      go_simp
      have hw := hbw.size
      apply wildUpon_enter
      refine (rof_at [⟨x0, x1, x2, x3, 0, x5, x6⟩] _ _ _ W0 _ hr (by simp) rfl rfl).mono ?_
      rintro e w6 ⟨⟨v, rfl, hl⟩, hb6⟩
      exact ⟨_, rfl, ⟨hl.base0 (by omega), trivial⟩, hb6, by simp⟩
    · clear dp0 dp1 dp2 dp3
      go_simp
      have hw := hbw.size
      apply wildUpon_enter
      refine (rlist_at ns ws _ base _ (HL2.out.below hbw) (by omega) (by omega)).mono ?_
      rintro e w6 ⟨⟨v, rfl, ho⟩, hb6⟩
      rw [List.length_append] at ho
      exact ⟨_, rfl, ⟨_, rfl, own_base ho (by omega)⟩, hb6, by simp⟩
    · obtain ⟨u4, e4, o4⟩ := dp2 (by decide)
      clear dp0 dp1 dp2 dp3
      rw [e4]
      go_simp
      have hw := hbw.size
      apply wildUpon_enter
      refine (rids_at (ns ++ ws) _ W0 _ (ReadC.of_own o4) (by rw [List.length_append]; omega)).mono ?_
      rintro e w6 ⟨⟨v, rfl, ho⟩, hb6⟩
      exact ⟨_, rfl, ⟨_, rfl, own_base ho (by omega)⟩, hb6, by simp⟩
  · skip
    intro vs w' hbw hr hap hlk
    simp only [List.forall_mem_cons, List.not_mem_nil, false_implies, implies_true, and_true] at hr hap
    obtain ⟨hh1, hh2, hh4, hh5⟩ := hr
    obtain ⟨A1, c1, e1, k1, m1, l1', f1⟩ := hh1
    obtain ⟨⟨a2, b2, e2, r2, s2⟩, tt2⟩ := hh2
    obtain ⟨u4, e4, o4⟩ := hh4
    obtain ⟨u5, e5, o5⟩ := hh5
    clear hlk
    try simp only [e1, e2, e4, e5] at hap
    try simp only [newB_ptr, newB_row, newB_win, newB_win2, List.mem_cons, forall_eq_or_imp, or_false, List.mem_singleton, forall_eq, List.not_mem_nil, false_implies, implies_true, not_false_eq_true, and_true, true_and] at  hap
    try simp only [ne_eq, not_true_eq_false, false_implies, true_and, and_true, Nat.reduceEqDiff, not_false_eq_true, forall_const] at hap
    simp only [putsF, List.foldl_cons, List.foldl_nil, e1, e2, e4, e5, List.drop_succ_cons, List.drop_zero]
    clear e1 e2 e4 e5
    have hw := hbw.size
    obtain ⟨A2, c2, rfl, ka, ma, la, fa⟩ := r2
    obtain ⟨D2, d2, rfl, kd, md, ld, fd⟩ := s2
    have HLL : Hid (LineV w' W0 [⟨x0, x1, x2, x3, 0, x5, x6⟩] [] (.agg #[.slice A2 1 c2, .slice D2 0 d2])) := Lib.hid ⟨_, _, rfl, ⟨A2, c2, rfl, ka, ma, la, fa⟩, ⟨D2, d2, rfl, kd, md, ld, fd⟩⟩
    have HI : Hid (IdsV w' (ns ++ ws) W0 u5) := Lib.hid o5
    have g0 := (hbw.cell (p := ⟨w.heap.size + 2, 0, none⟩) l2).trans r0
    have g1 := (hbw.cell (p := ⟨w.heap.size + 2, 1, none⟩) l2).trans r1
    have gf := fun o => (hbw.frozen (p := ⟨w.heap.size + 2, o, none⟩) l2).trans (rf o)
    have hB : Below w.heap.size w w' := hB2.trans (hbw.mono (by omega))
    have hl3 : w.heap.size + 2 < w'.heap.size := by omega
    clear l1' f1 la fa ld fd o4 o5 hbw s0 s1 t0 t1 t2 t3 t4 t5 t6 r0 r1 rf l0 l1 l2 HL2 tt2
    go_wp2
    refine bodyPost_ret (v := .tuple #[.agg #[.slice A2 1 c2, .slice D2 0 d2], u5, .int .i64 0]) ?_ rfl ?_
    · simp [results, Try.results34, go_sem, g0, g1, gf]
    · exact ⟨_, _, rfl, ((HLL.out.store (p := ⟨w.heap.size + 2, 0, none⟩) hWlt _).store (p := ⟨w.heap.size + 2, 1, none⟩) hWlt _).base0 (by omega), own_base ((HI.out.store (p := ⟨w.heap.size + 2, 0, none⟩) hWlt _).store (p := ⟨w.heap.size + 2, 1, none⟩) hWlt _) (by omega), by (repeat' (first | (with_reducible exact Below.refl _ _) | (with_reducible assumption) | (with_reducible refine below_drewN ?_ _) | (with_reducible refine Below.drew ?_) | (with_reducible refine below_new ?_ (Nat.le_refl _) _) | (with_reducible refine Below.setCell ?_ ?_ _) | (with_reducible refine below_go ?_ (by assumption) (Nat.le_refl _)) | (simp; done) | (simp; omega) | omega))⟩


set_option maxRecDepth 100000 in
set_option maxHeartbeats 4000000 in
theorem radd_more (ns ws : List CmdS) (v : Value) (base : Nat) (x : CmdS) (w : World) (h : LineV w base ns ws v) (g1 : ns.length ≤ 400) (g2 : ws.length ≤ 400) (hr : lineB ns ws = true) (hm : modeB x.mode = true) (h0 : x.mode ≠ 0) (h4 : ws.length ≠ 4) :
    Calls Try.prog 34 #[v, x.val] w fun e w' => AddPost w ((ns ++ ws ++ [x]).take 1) ((ns ++ ws ++ [x]).drop 1) [] 0 e w' := by
  have HL := Lib.hid h
  have hy := lineB_yes hr
  have hlens : ns.length ≤ 1 ∧ ws.length ≤ 4 := ⟨hy.1, hy.2.1⟩
  obtain ⟨i0, hi0, hz0, hz1, hz2⟩ := info_parts cmd_info
  have HI := Lib.hid hi0
  have HZ0 := Lib.hid hz0
  have HZ1 := Lib.hid hz1
  have HZ2 := Lib.hid hz2
  clear hi0 hz0 hz1 hz2
  obtain ⟨a, b, rfl, ⟨A, c, rfl, q1, q2, -⟩, ⟨D, d, rfl, q3, q4, -⟩⟩ := h
  have HR := Lib.hid hr
  have hmd : 0 ≤ x.mode ∧ x.mode ≤ 5 := by
    unfold modeB at hm
    simpa using hm
  obtain ⟨x0, x1, x2, x3, x4, x5, x6⟩ := x
  simp only [CmdS.val] at hmd h0 ⊢
  obtain ⟨hm1', hm2'⟩ := hmd
  have hb0 : (x4 == 0) = false := by simpa using h0
  have hb4 : ns.length + ws.length ≤ 4 := by omega
  obtain ⟨n, hn⟩ : ∃ n, ns.length = n := ⟨_, rfl⟩
  obtain ⟨m, hm2⟩ : ∃ m, ws.length = m := ⟨_, rfl⟩
  rw [hn] at q1 hlens hb4 ⊢
  rw [hm2] at q3 hlens hb4 ⊢
  rw [hn, hm2] at HL
  have HNM := Lib.hid (show (ns ++ ws).length = n + m by rw [List.length_append, hn, hm2])
  have HG1 := Lib.hid g1
  have HG2 := Lib.hid g2
  have hb4i : (n : Int) + (m : Int) ≤ 4 := by omega
  clear hr hy hm h0 h4 hn hm2 g1 g2
  go_enter Try.func34, Try.ntmps34
  go_wp2_with fail
  refine (rright_at ns ws _ base true _ (HL.out.below ?b1) HG1.out HG2.out HR.out).mono ?_
  case b1 => (repeat' (first | (with_reducible exact Below.refl _ _) | (with_reducible assumption) | (with_reducible refine below_drewN ?_ _) | (with_reducible refine Below.drew ?_) | (with_reducible refine below_new ?_ (Nat.le_refl _) _) | (with_reducible refine Below.setCell ?_ ?_ _) | (with_reducible refine below_go ?_ (by assumption) (Nat.le_refl _)) | (simp; done) | (simp; omega) | omega))
  rintro e w1 ⟨rfl, hb1⟩
  obtain ⟨hb1c, hb1f⟩ := bcell hb1
  have hb1z := hb1.size
  have hb1c0 := fun o => hb1c (w.heap.size) o (by first | (simp; done) | (simp; omega) | (simp at *; omega) | omega)
  have hb1f0 := fun o => hb1f (w.heap.size) o (by first | (simp; done) | (simp; omega) | (simp at *; omega) | omega)
  have hb1l0 := below_lt (b := w.heap.size) hb1 (by first | (simp; done) | (simp; omega) | (simp at *; omega) | omega)
  have hb1c1 := fun o => hb1c (w.heap.size + 1) o (by first | (simp; done) | (simp; omega) | (simp at *; omega) | omega)
  have hb1f1 := fun o => hb1f (w.heap.size + 1) o (by first | (simp; done) | (simp; omega) | (simp at *; omega) | omega)
  have hb1l1 := below_lt (b := w.heap.size + 1) hb1 (by first | (simp; done) | (simp; omega) | (simp at *; omega) | omega)
  have hb1c2 := fun o => hb1c (w.heap.size + 2) o (by first | (simp; done) | (simp; omega) | (simp at *; omega) | omega)
  have hb1f2 := fun o => hb1f (w.heap.size + 2) o (by first | (simp; done) | (simp; omega) | (simp at *; omega) | omega)
  have hb1l2 := below_lt (b := w.heap.size + 2) hb1 (by first | (simp; done) | (simp; omega) | (simp at *; omega) | omega)
  have hB1 : Below w.heap.size w w1 := by (repeat' (first | (with_reducible exact Below.refl _ _) | (with_reducible assumption) | (with_reducible refine below_drewN ?_ _) | (with_reducible refine Below.drew ?_) | (with_reducible refine below_new ?_ (Nat.le_refl _) _) | (with_reducible refine Below.setCell ?_ ?_ _) | (with_reducible refine below_go ?_ (by assumption) (Nat.le_refl _)) | (simp; done) | (simp; omega) | omega))
  clear hb1
  go_wp2_with fail
  refine (rlist_at ns ws _ base _ (HL.out.below hB1) HG1.out HG2.out).mono ?_
  rintro e w2 ⟨⟨v9, rfl, ho⟩, hb2⟩
  obtain ⟨A9, c9, rfl, -⟩ := own_form ho
  rw [HNM.out]
  clear ho
  obtain ⟨hb2c, hb2f⟩ := bcell hb2
  have hb2z := hb2.size
  have hb2c0 := fun o => hb2c (w.heap.size) o (by first | (simp; done) | (simp; omega) | (simp at *; omega) | omega)
  have hb2f0 := fun o => hb2f (w.heap.size) o (by first | (simp; done) | (simp; omega) | (simp at *; omega) | omega)
  have hb2l0 := below_lt (b := w.heap.size) hb2 (by first | (simp; done) | (simp; omega) | (simp at *; omega) | omega)
  have hb2c1 := fun o => hb2c (w.heap.size + 1) o (by first | (simp; done) | (simp; omega) | (simp at *; omega) | omega)
  have hb2f1 := fun o => hb2f (w.heap.size + 1) o (by first | (simp; done) | (simp; omega) | (simp at *; omega) | omega)
  have hb2l1 := below_lt (b := w.heap.size + 1) hb2 (by first | (simp; done) | (simp; omega) | (simp at *; omega) | omega)
  have hb2c2 := fun o => hb2c (w.heap.size + 2) o (by first | (simp; done) | (simp; omega) | (simp at *; omega) | omega)
  have hb2f2 := fun o => hb2f (w.heap.size + 2) o (by first | (simp; done) | (simp; omega) | (simp at *; omega) | omega)
  have hb2l2 := below_lt (b := w.heap.size + 2) hb2 (by first | (simp; done) | (simp; omega) | (simp at *; omega) | omega)
  have hB2 : Below w.heap.size w w2 := by (repeat' (first | (with_reducible exact Below.refl _ _) | (with_reducible assumption) | (with_reducible refine below_drewN ?_ _) | (with_reducible refine Below.drew ?_) | (with_reducible refine below_new ?_ (Nat.le_refl _) _) | (with_reducible refine Below.setCell ?_ ?_ _) | (with_reducible refine below_go ?_ (by assumption) (Nat.le_refl _)) | (simp; done) | (simp; omega) | omega))
  clear hb2
  have hz1 := hb1z
  have hz2 := hb2z
  have s0 : w2.cell? ⟨w.heap.size, 0, none⟩ = some (.slice A n c) := by go_simp
  have s1 : w2.cell? ⟨w.heap.size, 1, none⟩ = some (.slice D m d) := by go_simp
  have t0 : w2.cell? ⟨w.heap.size + 1, 0, none⟩ = some (.int .i64 x0) := by go_simp
  have t1 : w2.cell? ⟨w.heap.size + 1, 1, none⟩ = some (.int .i64 x1) := by go_simp
  have t2 : w2.cell? ⟨w.heap.size + 1, 2, none⟩ = some (.int .i64 x2) := by go_simp
  have t3 : w2.cell? ⟨w.heap.size + 1, 3, none⟩ = some (.int .i64 x3) := by go_simp
  have t4 : w2.cell? ⟨w.heap.size + 1, 4, none⟩ = some (.int .i64 x4) := by go_simp
  have t5 : w2.cell? ⟨w.heap.size + 1, 5, none⟩ = some (.int .i64 x5) := by go_simp
  have t6 : w2.cell? ⟨w.heap.size + 1, 6, none⟩ = some (.int .i64 x6) := by go_simp
  have r0 : w2.cell? ⟨w.heap.size + 2, 0, none⟩ = some (.slice none 0 0) := by go_simp
  have r1 : w2.cell? ⟨w.heap.size + 2, 1, none⟩ = some (.slice none 0 0) := by go_simp
  have rf : ∀ o, w2.frozen? ⟨w.heap.size + 2, o, none⟩ = false := fun o => by go_simp
  have l0 : w.heap.size < w2.heap.size := by omega
  have l1 : w.heap.size + 1 < w2.heap.size := by omega
  have l2 : w.heap.size + 2 < w2.heap.size := by omega
  have HL2 := Lib.hid (HL.out.below hB2)
  clear HL HR hb1c hb1f hb1z hb1c0 hb1c1 hb1c2 hb1f0 hb1f1 hb1f2 hb1l0 hb1l1 hb1l2 hb2c hb2f hb2z hb2c0 hb2c1 hb2c2 hb2f0 hb2f1 hb2f2 hb2l0 hb2l1 hb2l2 hB1 hz1 hz2
  obtain ⟨W0, hW0⟩ : ∃ W0, w.heap.size + 3 = W0 := ⟨_, rfl⟩
  have hWle : W0 ≤ w2.heap.size := by omega
  have hWlt : w.heap.size + 2 < W0 := by omega
  clear hW0
  go_wp2_with fail
  refine wp_region_wild 4 1000 ([{ i := 1, d := 36, R := isOwnC (n + m) (cmdsC (ns ++ ws)) W0, N := (fun _ => []) }, { i := 3, d := 38, R := isReadC 1 (cmdsC [⟨x0, x1, x2, x3, x4, x5, x6⟩]) W0, N := (fun _ => []) }] : List Wd) [false, true, false, true] rfl (by kernel_rfl) (by kernel_rfl) (fun _ _ _ _ _ h => h) (by kernel_rfl) ?_ ?_
  · intro x hx v w1 w2 hR hb
    simp only [List.mem_cons, List.not_mem_nil, or_false] at hx
    rcases hx with rfl | rfl
    all_goals (dsimp only at hR ⊢; exact hR.below hb)
  apply Exists.intro
  refine ⟨fun S hS hne => ?_, ?_, ?_, ?_⟩
  · simp only [List.take_succ_cons, List.take_zero, List.map_cons, List.map_nil]
    delta CS
    repeat (first | with_reducible refine mask_skip ?_ | ((with_reducible refine mask_keep ?_); go_big_quiet_step (fail)))
    exact mask_nil rfl
  · intro x hx he
    simp only [List.mem_cons, List.not_mem_nil, or_false] at hx
    rcases hx with rfl | rfl
    all_goals (dsimp only at he; exact absurd he (by decide))
  · skip
    simp only [List.forall_mem_cons, List.not_mem_nil, false_implies, implies_true, and_true]
    refine ⟨?_, ?_⟩
    all_goals
      intro o ho
      simp only [List.getElem?_cons_succ, List.getElem?_cons_zero, Option.some.injEq] at ho
      subst ho
      intro vs w' hbw hdeps
      simp only [putsF, List.foldl_cons, List.foldl_nil]
      refine ⟨by first | rfl | go_simp, ?_⟩
      first | with_reducible refine wild_plain ?_ | with_reducible refine wild_link ?_
      simp only [List.forall_mem_cons, List.not_mem_nil, false_implies, implies_true, and_true] at hdeps
      obtain ⟨dp0, dp1⟩ := hdeps
    · clear dp0 dp1
      go_simp
      have hw := hbw.size
      apply wildUpon_enter
      refine (rlist_at ns ws _ base _ (HL2.out.below hbw) HG1.out HG2.out).mono ?_
      rintro e w6 ⟨⟨v, rfl, ho⟩, hb6⟩
      rw [HNM.out] at ho
      exact ⟨_, rfl, ⟨_, rfl, own_base ho (by omega)⟩, hb6, by simp⟩
    · clear dp0 dp1
      go_simp
      have hw := hbw.size
      exact wildUpon_value ⟨read_new ⟨x0, x1, x2, x3, x4, x5, x6⟩ _ W0 (by omega) _, (Below.refl _ _).alloc (Nat.le_refl _) _, by simp⟩
  · skip
    intro vs w' hbw hr hap hlk
    simp only [List.forall_mem_cons, List.not_mem_nil, false_implies, implies_true, and_true] at hr hap
    obtain ⟨hh1, hh3⟩ := hr
    obtain ⟨u1, e1, o1⟩ := hh1
    obtain ⟨A3, c3, e3, k3, m3, l3, f3⟩ := hh3
    clear hlk
    try simp only [e1, e3] at hap
    try simp only [newB_ptr, newB_row, newB_win, newB_win2, List.mem_cons, forall_eq_or_imp, or_false, List.mem_singleton, forall_eq, List.not_mem_nil, false_implies, implies_true, not_false_eq_true, and_true, true_and] at  hap
    try simp only [ne_eq, not_true_eq_false, false_implies, true_and, and_true, Nat.reduceEqDiff, not_false_eq_true, forall_const] at hap
    simp only [putsF, List.foldl_cons, List.foldl_nil, e1, e3, List.drop_succ_cons, List.drop_zero]
    clear e1 e3
    have hw := hbw.size
    have g0 := (hbw.cell (p := ⟨w.heap.size + 2, 0, none⟩) l2).trans r0
    have g1 := (hbw.cell (p := ⟨w.heap.size + 2, 1, none⟩) l2).trans r1
    have gf := fun o => (hbw.frozen (p := ⟨w.heap.size + 2, o, none⟩) l2).trans (rf o)
    have hB : Below w.heap.size w w' := hB2.trans (hbw.mono (by omega))
    have hl3 : w.heap.size + 2 < w'.heap.size := by omega
    have HO1 := Lib.hid o1
    have HL3 := Lib.hid l3
    clear o1 l3 f3 hbw s0 s1 t0 t1 t2 t3 t4 t5 t6 r0 r1 rf l0 l1 l2 HL2
    go_wp2_with (at_builtin; refine wpList_app _ rfl _ _ 43 rfl W0 51 i0 _ 7 56 Try.underlying43 HI.out HZ0.out HZ1.out HZ2.out rfl (by decide) u1 (n + m) (cmdsC (ns ++ ws)) rfl HO1.out w'.heap.size A3 1 c3 (cmdsC [⟨x0, x1, x2, x3, x4, x5, x6⟩]) rfl HL3.out (cmdsC_one _) ?c1 ?c2 ?c3 ?_)
    case c1 => unfold maxLen; omega
    case c2 => omega
    case c3 => omega
    intro v3 w3 hown3 hgrow _
    have hq := below_grown (Below.refl W0 w') hgrow HO1.out (Nat.le_refl _) (by omega)
    have g0' := (hq.cell (p := ⟨w.heap.size + 2, 0, none⟩) hWlt).trans g0
    have g1' := (hq.cell (p := ⟨w.heap.size + 2, 1, none⟩) hWlt).trans g1
    have gf' := fun o => (hq.frozen (p := ⟨w.heap.size + 2, o, none⟩) hWlt).trans (gf o)
    have hB3 : Below w.heap.size w w3 := hB.trans (hq.mono (by omega))
    have hw3 := hq.size
    rw [← cmdsC_append] at hown3
    have hlen3 : (ns ++ ws ++ [(⟨x0, x1, x2, x3, x4, x5, x6⟩ : CmdS)]).length = n + m + 1 := by rw [List.length_append, HNM.out]; rfl
    have HR3 := Lib.hid (ReadC.of_own hown3)
    rw [← hlen3] at HR3
    have HLEN := Lib.hid hlen3
    clear hown3 hgrow hq g0 g1 gf hB hlen3 HO1 HL3
    obtain ⟨n4, hn4⟩ : ∃ n, ((ns ++ ws ++ [(⟨x0, x1, x2, x3, x4, x5, x6⟩ : CmdS)]).take 1).length = n := ⟨_, rfl⟩
    obtain ⟨m4, hm4⟩ : ∃ n, ((ns ++ ws ++ [(⟨x0, x1, x2, x3, x4, x5, x6⟩ : CmdS)]).drop 1).length = n := ⟨_, rfl⟩
    have HN4 := Lib.hid hn4
    have HM4 := Lib.hid hm4
    clear hn4 hm4
    go_wp2_with fail
    refine (rof_at _ _ _ _ W0 _ HR3.out (by rw [HLEN.out]; omega) rfl rfl).mono ?_
    rintro e w4 ⟨⟨v4, rfl, hl4⟩, hb4'⟩
    have hl3 : w.heap.size + 2 < w3.heap.size := by omega
    obtain ⟨a4, b4, rfl, ⟨A4, c4, rfl, ka, ma, la, fa⟩, ⟨D4, d4, rfl, kd, md, ld, fd⟩⟩ := hl4
    have hll : LineV w4 w3.heap.size _ _ (.agg #[.slice A4 _ c4, .slice D4 _ d4]) := ⟨_, _, rfl, ⟨A4, c4, rfl, ka, ma, la, fa⟩, ⟨D4, d4, rfl, kd, md, ld, fd⟩⟩
    rw [HN4.out, HM4.out] at hll ⊢
    have HLL := Lib.hid hll
    clear hll
    have g0 := (hb4'.cell (p := ⟨w.heap.size + 2, 0, none⟩) hl3).trans g0'
    have g1 := (hb4'.cell (p := ⟨w.heap.size + 2, 1, none⟩) hl3).trans g1'
    have gf := fun o => (hb4'.frozen (p := ⟨w.heap.size + 2, o, none⟩) hl3).trans (gf' o)
    have hB4 : Below w.heap.size w w4 := hB3.trans (hb4'.mono (by omega))
    clear hb4' g0' g1' gf' la fa ld fd HR3 ka ma kd md
    go_wp2
    refine bodyPost_ret (v := .tuple #[.agg #[.slice A4 n4 c4, .slice D4 m4 d4], .slice none 0 0, .int .i64 0]) ?_ rfl ?_
    · simp [results, Try.results34, go_sem, g0, g1, gf]
    · exact ⟨_, _, rfl, ((HLL.out.store (p := ⟨w.heap.size + 2, 0, none⟩) hl3 _).store (p := ⟨w.heap.size + 2, 1, none⟩) hl3 _).base0 (by omega), nil_ids, by (repeat' (first | (with_reducible exact Below.refl _ _) | (with_reducible assumption) | (with_reducible refine below_drewN ?_ _) | (with_reducible refine Below.drew ?_) | (with_reducible refine below_new ?_ (Nat.le_refl _) _) | (with_reducible refine Below.setCell ?_ ?_ _) | (with_reducible refine below_go ?_ (by assumption) (Nat.le_refl _)) | (simp; done) | (simp; omega) | omega))⟩

theorem radd_at (ns ws : List CmdS) (v : Value) (base : Nat) (x : CmdS) (r : AddR) (w : World) (h : LineV w base ns ws v) (g1 : ns.length ≤ 400) (g2 : ws.length ≤ 400) (hr : addR ns ws x = r) :
    Calls Try.prog 34 #[v, x.val] w fun e w' => AddPost w r.ns r.ws r.ids r.e e w' := by
  subst hr
  unfold addR
  cases h1 : lineB ns ws
  · exact radd_noline ns ws v base x w h g1 g2 h1
  · cases h2 : modeB x.mode
    · exact radd_nomode ns ws v base x w h g1 g2 h1 h2
    · simp only [Bool.and_self, Bool.true_eq_false, if_false]
      by_cases h3 : x.mode = 0
      · rw [if_pos h3]
        exact radd_abort ns ws v base x w h g1 g2 h1 h3
      · rw [if_neg h3]
        by_cases h4 : ws.length = 4
        · rw [if_pos h4]
          exact radd_full ns ws v base x w h g1 g2 h1 h2 h3 h4
        · rw [if_neg h4]
          exact radd_more ns ws v base x w h g1 g2 h1 h2 h3 h4


end Go.Proofs.Ytddakmlnkffgiaa
