/- Merged: Layer 27: block.Ask on the fixed program of the law's own answer. PRINTED by wip/tool/mkask2.py Layer 27: the law's own fixed answer. -/
import Derived.Test.YtknnhnefbbjcdaaDoorM35
import Derived.Test.YtknnhnefbbjcdaaDoorM33
namespace Go.Proofs.YtknnhnefbbjcdaaDoor
open Go.RowKit
set_option linter.unusedVariables false
set_option linter.unusedSimpArgs false
attribute [local go_sem] ite_max ite_min vite_max vite_min ext_cell ext_frozen

def hlV : VarS := ⟨⟨#[109]⟩, 23, 0, false, 0, 0, 0, 0⟩
def hlP : Prg := ⟨⟨#[112]⟩, [hlV], []⟩
theorem hlP_sum : sumN hlP.vars = 9 := by kernel_rfl
theorem hlP_blks : blks hlP.vars = [⟨0, 23, 0⟩] := by kernel_rfl
theorem hl_rcount : rcount 23 = 9 := by kernel_rfl
theorem hlP_ok : ∀ v ∈ hlP.vars, ArrOk v := by
 intro v hv
 simp only [hlP, List.mem_cons, List.not_mem_nil, or_false] at hv
 rcases hv with rfl
 exact fun h => by cases h
theorem hlP_mot : ∀ v ∈ hlP.vars, v.arr = true → v.type ≤ 2 := by
 intro v hv
 simp only [hlP, List.mem_cons, List.not_mem_nil, or_false] at hv
 rcases hv with rfl
 exact fun h => by cases h
theorem mk_bool1 (w : World) : (Instr.makeSlice 61 (.int .i64 1) (.int .i64 1)).run Tryd.prog w = .ok (.slice (some ⟨w.heap.size, 0, none⟩) 1 1) (w.alloc (.cells #[.bool false] 4)) := by kernel_rfl
theorem mk_in1 (w : World) : (Instr.makeSlice 37 (.int .i64 1) (.int .i64 1)).run Tryd.prog w = .ok (.slice (some ⟨w.heap.size, 0, none⟩) 1 1) (w.alloc (.cells #[.bool false, .bool false, .int .i64 0, .int .i64 0, .bool false, .bool false, .bool false, .bool false, .bool false, .int .i64 0, .int .i64 0, .slice none 0 0] 48)) := by kernel_rfl
structure AX (w0 W : World) (H B g c qi ci : Nat) (nx : Int) (cv : Value) (zs : List Int) : Prop where
 a : AS w0 W W g (B + 3) qi ci nx cv zs
 p0 : W.cell? ⟨B, 0, none⟩ = some (.string ⟨#[112]⟩)
 p1 : W.cell? ⟨B, 1, none⟩ = some (.slice (some ⟨H, 0, none⟩) 1 1)
 p2 : W.cell? ⟨B, 2, none⟩ = some (.slice none 0 0)
 rc : ∀ j, j < 4 → ∃ v, W.cell? ⟨B + 1, j, none⟩ = some v
 rf : ∀ o, W.frozen? ⟨B + 1, o, none⟩ = false
 kp : W.cell? ⟨B + 2, 0, none⟩ = some (.bool false)
 k0 : W.cell? ⟨B + 3, 0, none⟩ = some (.slice (some ⟨g, 0, none⟩) 9 c)
 k3 : W.cell? ⟨B + 3, 3, none⟩ = some (.slice none 0 0)
 k5 : W.cell? ⟨B + 3, 5, none⟩ = some (.slice (some ⟨B + 2, 0, none⟩) 1 1)
 i8 : ∃ b, W.cell? ⟨qi, 8, none⟩ = some (.bool b)
 i9 : ∃ z, W.cell? ⟨qi, 9, none⟩ = some (.int .i64 z)
 lg : B + 3 < g
 lq : B + 3 < qi
section
variable {w0 w W W' : World} {H B K g c qi ci : Nat} {nx nx' : Int} {cv cv' : Value} {zs zs' : List Int}
theorem AX.lt (h : AX w0 W H B g c qi ci nx cv zs) : B + 3 < W.heap.size := h.a.lK
theorem AX.below (h : AX w0 W H B g c qi ci nx cv zs) (hb : Below W.heap.size W W') : AX w0 W' H B g c qi ci nx cv zs := by
 have l3 := h.a.lK
 have lq := h.a.lq
 have hc : ∀ b o, b < W.heap.size → W'.cell? ⟨b, o, none⟩ = W.cell? ⟨b, o, none⟩ := fun b o hl => hb.cell (p := ⟨b, o, none⟩) hl
 have hf : ∀ b o, b < W.heap.size → W'.frozen? ⟨b, o, none⟩ = W.frozen? ⟨b, o, none⟩ := fun b o hl => hb.frozen (p := ⟨b, o, none⟩) hl
 exact ⟨(h.a.below hb).rebase, (hc _ _ (by omega)).trans h.p0, (hc _ _ (by omega)).trans h.p1, (hc _ _ (by omega)).trans h.p2, fun j hj => (h.rc j hj).imp fun v hv => (hc _ _ (by omega)).trans hv, fun o => (hf _ _ (by omega)).trans (h.rf o), (hc _ _ (by omega)).trans h.kp, (hc _ _ (by omega)).trans h.k0, (hc _ _ (by omega)).trans h.k3, (hc _ _ (by omega)).trans h.k5, h.i8.imp fun v hv => (hc _ _ lq).trans hv, h.i9.imp fun v hv => (hc _ _ lq).trans hv, h.lg, h.lq⟩
theorem AX.asked (h : AX w0 w H B g c qi ci nx cv zs) (h2 : AS w0 w W g (B + 3) qi ci nx' cv' zs') : AX w0 W H B g c qi ci nx' cv' zs' := by
 have l3 := h.a.lK
 have lg := h.lg
 have lq := h.lq
 have hn : ∀ b, b < B + 3 → ¬ (b = g ∨ b = B + 3 ∨ b = qi) := fun b hb => by omega
 have hc : ∀ b o, b < B + 3 → W.cell? ⟨b, o, none⟩ = w.cell? ⟨b, o, none⟩ := fun b o hl => h2.buts.cell b o (by omega) (hn b hl)
 exact ⟨h2.rebase, (hc _ _ (by omega)).trans h.p0, (hc _ _ (by omega)).trans h.p1, (hc _ _ (by omega)).trans h.p2, fun j hj => (h.rc j hj).imp fun v hv => (hc _ _ (by omega)).trans hv, fun o => (h2.buts.froz _ _ (by omega) (hn _ (by omega))).trans (h.rf o), (hc _ _ (by omega)).trans h.kp, (h2.ek 0 (by decide)).trans h.k0, (h2.ek 3 (by decide)).trans h.k3, (h2.ek 5 (by decide)).trans h.k5, h.i8.imp fun v hv => (h2.eq 8 (by decide)).trans hv, h.i9.imp fun v hv => (h2.eq 9 (by decide)).trans hv, lg, lq⟩
theorem AS.putO (h : AS w0 w W g K qi ci nx cv zs) (j : Nat) (hj : j ≠ 11) (v : Value) : AS w0 (W.setCell ⟨qi, j, none⟩ v) (W.setCell ⟨qi, j, none⟩ v) g K qi ci nx cv zs :=
 have hb : But qi W (W.setCell ⟨qi, j, none⟩ v) := (But.refl qi W).set j _
 have hB : Buts (fun b => b = g ∨ b = K ∨ b = qi) W (W.setCell ⟨qi, j, none⟩ v) := Buts.of_but hb (.inr (.inr rfl))
 have hf := fun o => (show (W.setCell ⟨qi, j, none⟩ v).frozen? ⟨qi, o, none⟩ = W.frozen? ⟨qi, o, none⟩ by go_simp).trans (h.qf o)
 ⟨row_but h.row hb (Ne.symm h.nqg), (hb.cell K 1 h.lK h.nKq).trans h.k1, (hb.cell K 2 h.lK h.nKq).trans h.k2, (hb.cell K 4 h.lK h.nKq).trans h.k4, (World.cell?_setCell_other _ _ _ _ (fun e => by injection e with e1 e2; exact hj e2)).trans h.iv, fun o => (hb.froz K o h.lK h.nKq).trans (h.kf o), hf, Nat.lt_of_lt_of_le h.lK hb.size, Nat.lt_of_lt_of_le h.lq hb.size, h.nKg, h.nqg, h.nKq, Buts.of_below (Below.refl _ _), h.low, h.old.trans (hB.below _ h.low3 h.old.size), fun _ _ => rfl, fun _ _ => rfl⟩
theorem AX.putI (h : AX w0 W H B g c qi ci nx cv zs) (j : Nat) (hj : j ≠ 11) (v : Value) (h8 : ∃ b, (W.setCell ⟨qi, j, none⟩ v).cell? ⟨qi, 8, none⟩ = some (.bool b)) (h9 : ∃ z, (W.setCell ⟨qi, j, none⟩ v).cell? ⟨qi, 9, none⟩ = some (.int .i64 z)) : AX w0 (W.setCell ⟨qi, j, none⟩ v) H B g c qi ci nx cv zs := by
 have l3 := h.a.lK
 have lq := h.lq
 have hb : But qi W (W.setCell ⟨qi, j, none⟩ v) := (But.refl qi W).set j _
 have hc : ∀ b o, b < B + 4 → (W.setCell ⟨qi, j, none⟩ v).cell? ⟨b, o, none⟩ = W.cell? ⟨b, o, none⟩ := fun b o hl => hb.cell b o (by omega) (by omega)
 exact ⟨h.a.putO j hj v, (hc _ _ (by omega)).trans h.p0, (hc _ _ (by omega)).trans h.p1, (hc _ _ (by omega)).trans h.p2, fun q hq => (h.rc q hq).imp fun v hv => (hc _ _ (by omega)).trans hv, fun o => (hb.froz _ _ (by omega) (by omega)).trans (h.rf o), (hc _ _ (by omega)).trans h.kp, (hc _ _ (by omega)).trans h.k0, (hc _ _ (by omega)).trans h.k3, (hc _ _ (by omega)).trans h.k5, h8, h9, h.lg, lq⟩
end
set_option maxHeartbeats 1000000 in
theorem ax_start {w0 W WL : World} {H B g c qi : Nat} {v0 v1 v2 v3 : Value} (hB : w0.heap.size ≤ B) (hold : Below w0.heap.size w0 W) (hlB : B + 3 < W.heap.size)
  (p0 : W.cell? ⟨B, 0, none⟩ = some (.string ⟨#[112]⟩)) (p1 : W.cell? ⟨B, 1, none⟩ = some (.slice (some ⟨H, 0, none⟩) 1 1)) (p2 : W.cell? ⟨B, 2, none⟩ = some (.slice none 0 0))
  (rc : ∀ j, j < 4 → ∃ v, W.cell? ⟨B + 1, j, none⟩ = some v) (rf : ∀ o, W.frozen? ⟨B + 1, o, none⟩ = false) (kp : W.cell? ⟨B + 2, 0, none⟩ = some (.bool false))
  (k0 : W.cell? ⟨B + 3, 0, none⟩ = some v0) (k1 : W.cell? ⟨B + 3, 1, none⟩ = some v1) (k2 : W.cell? ⟨B + 3, 2, none⟩ = some v2) (k3 : W.cell? ⟨B + 3, 3, none⟩ = some v3)
  (k4 : W.cell? ⟨B + 3, 4, none⟩ = some (.int .i64 1)) (k5 : W.cell? ⟨B + 3, 5, none⟩ = some (.slice (some ⟨B + 2, 0, none⟩) 1 1)) (kf : ∀ o, W.frozen? ⟨B + 3, o, none⟩ = false)
  (hWL : Below W.heap.size W WL) (hrow : Row WL g [0, 1, 0, 0, 0, 0, 0, 0, 0]) (hI : WL.heap[qi]? = some (.cells #[.bool false, .bool false, .int .i64 0, .int .i64 0, .bool false, .bool false, .bool false, .bool false, .bool false, .int .i64 0, .int .i64 0, .slice none 0 0] 48)) (hg : B + 3 < g) (hq : B + 3 < qi) (hgq : qi ≠ g) :
  AX w0 ((((WL.setCell ⟨B + 3, 0, none⟩ (.slice (some ⟨g, 0, none⟩) 9 c)).setCell ⟨B + 3, 1, none⟩ (.int .i64 1)).setCell ⟨B + 3, 2, none⟩ (.slice (some ⟨qi, 0, none⟩) 1 1)).setCell ⟨B + 3, 3, none⟩ (.slice none 0 0)) H B g c qi 1 1 (.slice none 0 0) [0, 1, 0, 0, 0, 0, 0, 0, 0] := by
 have hc : ∀ b o, b < W.heap.size → WL.cell? ⟨b, o, none⟩ = W.cell? ⟨b, o, none⟩ := fun b o hl => hWL.cell (p := ⟨b, o, none⟩) hl
 have hf : ∀ b o, b < W.heap.size → WL.frozen? ⟨b, o, none⟩ = W.frozen? ⟨b, o, none⟩ := fun b o hl => hWL.frozen (p := ⟨b, o, none⟩) hl
 have hlL : B + 3 < WL.heap.size := Nat.lt_of_lt_of_le hlB hWL.size
 have q0 := (hc (B + 3) 0 hlB).trans k0
 have q1 := (hc (B + 3) 1 hlB).trans k1
 have q2 := (hc (B + 3) 2 hlB).trans k2
 have q3 := (hc (B + 3) 3 hlB).trans k3
 have q4 := (hc (B + 3) 4 hlB).trans k4
 have q5 := (hc (B + 3) 5 hlB).trans k5
 have qf := fun o => (hf (B + 3) o hlB).trans (kf o)
 have hlq : qi < WL.heap.size := (Array.getElem?_eq_some_iff.1 hI).1
 obtain ⟨W', hW'⟩ : ∃ x, x = ((((WL.setCell ⟨B + 3, 0, none⟩ (.slice (some ⟨g, 0, none⟩) 9 c)).setCell ⟨B + 3, 1, none⟩ (.int .i64 1)).setCell ⟨B + 3, 2, none⟩ (.slice (some ⟨qi, 0, none⟩) 1 1)).setCell ⟨B + 3, 3, none⟩ (.slice none 0 0)) := ⟨_, rfl⟩
 have hb : But (B + 3) WL W' := by rw [hW']; exact ((((But.refl _ _).set 0 _).set 1 _).set 2 _).set 3 _
 have e0 : W'.cell? ⟨B + 3, 0, none⟩ = some (.slice (some ⟨g, 0, none⟩) 9 c) := by rw [hW']; go_simp
 have e1 : W'.cell? ⟨B + 3, 1, none⟩ = some (.int .i64 1) := by rw [hW']; go_simp
 have e2 : W'.cell? ⟨B + 3, 2, none⟩ = some (.slice (some ⟨qi, 0, none⟩) 1 1) := by rw [hW']; go_simp
 have e3 : W'.cell? ⟨B + 3, 3, none⟩ = some (.slice none 0 0) := by rw [hW']; go_simp
 have e4 : W'.cell? ⟨B + 3, 4, none⟩ = some (.int .i64 1) := by rw [hW']; go_simp
 have e5 : W'.cell? ⟨B + 3, 5, none⟩ = some (.slice (some ⟨B + 2, 0, none⟩) 1 1) := by rw [hW']; go_simp
 have ef : ∀ o, W'.frozen? ⟨B + 3, o, none⟩ = false := fun o => by rw [hW']; have := qf o; go_simp
 rw [← hW']
 have hd : ∀ b o, b < B + 3 → W'.cell? ⟨b, o, none⟩ = W.cell? ⟨b, o, none⟩ := fun b o hl => (hb.cell b o (by omega) (by omega)).trans (hc b o (by omega))
 have hz := hb.size
 refine ⟨⟨row_but hrow hb (by omega), e1, e2, e4, (hb.cell qi 11 hlq (by omega)).trans (heap_cell 11 _ hI rfl), ef, fun o => (hb.froz qi o hlq (by omega)).trans (heap_free o hI), by omega, by omega, by omega, hgq, by omega, Buts.of_below (Below.refl _ _), by omega, ?_, fun _ _ => rfl, fun _ _ => rfl⟩, (hd _ _ (by omega)).trans p0, (hd _ _ (by omega)).trans p1, (hd _ _ (by omega)).trans p2, fun j hj => (rc j hj).imp fun v hv => (hd _ _ (by omega)).trans hv, fun o => ((hb.froz _ _ (by omega) (by omega)).trans (hf _ _ (by omega))).trans (rf o), (hd _ _ (by omega)).trans kp, e0, e3, e5, ⟨false, (hb.cell qi 8 hlq (by omega)).trans (heap_cell 8 _ hI rfl)⟩, ⟨0, (hb.cell qi 9 hlq (by omega)).trans (heap_cell 9 _ hI rfl)⟩, hg, hq⟩
 exact (hold.trans (hWL.mono hold.size)).trans (hb.below _ (by omega) (by have := hold.size; have := hWL.size; omega))

set_option maxRecDepth 100000 in
set_option maxHeartbeats 8000000 in
theorem ask27_at (H Z : Nat) (w : World) (ht : Blanks w) (hP : PrgAt w hlP [.string ⟨#[112]⟩, .slice (some ⟨H, 0, none⟩) 1 1, .slice none 0 0]) (hz : RowN w (some ⟨Z, 0, none⟩) [0, 1, 0, 0, 0, 0, 0, 0, 0] 9) :
  Calls Tryd.prog 9 #[.agg #[.string ⟨#[112]⟩, .slice (some ⟨H, 0, none⟩) 1 1, .slice none 0 0], .slice (some ⟨Z, 0, none⟩) 9 9, .int .i64 1, .int .i64 1] w fun e w' => (∃ g c qi ci hh kc, e = .returned (.agg #[.slice (some ⟨g, 0, none⟩) 9 c, .int .i64 2, .slice (some ⟨qi, 0, none⟩) 1 ci, .slice none 0 0]) ∧ Row w' g [0, 1, 0, 1, 0, 0, 0, 1, 1] ∧ w'.cell? ⟨qi, 11, none⟩ = some (.slice (some ⟨hh, 0, none⟩) 1 kc) ∧ w'.cell? ⟨hh, 1, none⟩ = some (.int .i64 5) ∧ qi < w'.heap.size ∧ hh < w'.heap.size) ∧ Below w.heap.size w w' := by
 have HT := Lib.hid ht
 have HP := Lib.hid hP
 have HZ := Lib.hid hz
 have HCL : Hid (∀ W, Below w.heap.size w W → Calls Tryd.prog 16 #[.slice (some ⟨Z, 0, none⟩) 9 9] W fun e w' => (∃ g c, e = .returned (.slice (some ⟨g, 0, none⟩) 9 c) ∧ 9 ≤ c ∧ c ≤ 9223372036854775807 ∧ W.heap.size ≤ g ∧ Row w' g [0, 1, 0, 0, 0, 0, 0, 0, 0]) ∧ Below W.heap.size W w') := Lib.hid (fun W hW => by
  refine (clone_at [0, 1, 0, 0, 0, 0, 0, 0, 0] (some ⟨Z, 0, none⟩) 9 9 W (hz.below hW) (.inr ⟨_, _, rfl⟩) rfl (by decide)).mono ?_
  rintro e w' ⟨⟨v, rfl, hown⟩, hb⟩
  obtain ⟨g, cap, rfl, h1, h2, h3, h4, -⟩ := row_of_own hown (by decide)
  exact ⟨⟨g, cap, rfl, h1, h2, h3, h4⟩, hb⟩)
 have hmkb := mk_bool1
 have hmki := mk_in1
 clear ht hP hz
 go_enter Tryd.func9, Tryd.ntmps9
 go_upto_region 2 with (fail)
 simp only [show (min (1 : Int) 4) = 1 from rfl, show (max (0 : Int) 1) = 1 from rfl]
 go_upto_region 3 with (fail)
 refine wp_name fun W hW => ?_
 obtain ⟨B, hB⟩ : ∃ B, B = w.heap.size := ⟨_, rfl⟩
 have hb1 : B + 1 = w.heap.size + 1 := by omega
 have hb2 : B + 2 = w.heap.size + 2 := by omega
 have hb3 : B + 3 = w.heap.size + 3 := by omega
 have hbel : Below w.heap.size w W := by rw [hW.out]; exact belowBy
 have hsz : W.heap.size = B + 4 := by rw [hW.out, hB]; simp
 have p0 : W.cell? ⟨B, 0, none⟩ = some (.string ⟨#[112]⟩) := by rw [hW.out, hB]; go_simp
 have p1 : W.cell? ⟨B, 1, none⟩ = some (.slice (some ⟨H, 0, none⟩) 1 1) := by rw [hW.out, hB]; go_simp
 have p2 : W.cell? ⟨B, 2, none⟩ = some (.slice none 0 0) := by rw [hW.out, hB]; go_simp
 have kp : W.cell? ⟨B + 2, 0, none⟩ = some (.bool false) := by rw [hW.out, hb2]; go_simp
 have k5 : W.cell? ⟨B + 3, 5, none⟩ = some (.slice (some ⟨B + 2, 0, none⟩) 1 1) := by rw [hW.out, hb3, hb2]; go_simp
 have k4 : W.cell? ⟨B + 3, 4, none⟩ = some (.int .i64 1) := by rw [hW.out, hb3]; go_simp
 have kc : ∃ v0 v1 v2 v3, W.cell? ⟨B + 3, 0, none⟩ = some v0 ∧ W.cell? ⟨B + 3, 1, none⟩ = some v1 ∧ W.cell? ⟨B + 3, 2, none⟩ = some v2 ∧ W.cell? ⟨B + 3, 3, none⟩ = some v3 := by
  refine ⟨.slice none 0 0, .int .i64 0, .slice none 0 0, .slice none 0 0, ?_, ?_, ?_, ?_⟩
  all_goals (rw [hW.out, hb3]; go_simp)
 have kf : ∀ o, W.frozen? ⟨B + 3, o, none⟩ = false := fun o => by rw [hW.out, hb3]; go_simp
 have rc : ∀ j, j < 4 → ∃ v, W.cell? ⟨B + 1, j, none⟩ = some v := fun j hj => by
  rw [hW.out, hb1]
  rcases (show j = 0 ∨ j = 1 ∨ j = 2 ∨ j = 3 by omega) with rfl | rfl | rfl | rfl
  ·exact ⟨.slice none 0 0, by go_simp⟩
  ·exact ⟨.int .i64 0, by go_simp⟩
  ·exact ⟨.slice none 0 0, by go_simp⟩
  ·exact ⟨.slice none 0 0, by go_simp⟩
 have rf : ∀ o, W.frozen? ⟨B + 1, o, none⟩ = false := fun o => by rw [hW.out, hb1]; go_simp
 have HB := Lib.hid hbel
 (try rw [← hb3])
 (try rw [← hb2])
 (try rw [← hb1])
 (try rw [← hB])
 have hBw : w.heap.size ≤ B := by omega
 clear hW hbel hB hb1 hb2 hb3
 obtain ⟨v0, v1, v2, v3, k0, k1, k2, k3⟩ := kc
 have hlB : B + 3 < W.heap.size := by omega
 go_cut [] from 25 to 33 (fun wx => ∃ g c qi ci, 9 ≤ c ∧ c ≤ 9223372036854775807 ∧ Hid (AX w wx H B g c qi ci 1 (.slice none 0 0) [0, 1, 0, 0, 0, 0, 0, 0, 0]))
 case first =>
  have HBD : Hid (Below W.heap.size W W.drew) := Lib.hid (by exact belowBy)
  have HTOP : Hid (∀ W', Below W.heap.size W W' → B + 3 < W'.heap.size) := Lib.hid (fun W' hW' => Nat.lt_of_lt_of_le hlB hW'.size)
  have HKF := Lib.hid kf
  have HK1 := Lib.hid k1
  have HK0 := Lib.hid k0
  have HK2 := Lib.hid k2
  have HK3 := Lib.hid k3
  have HK4 := Lib.hid k4
  have HK5 := Lib.hid k5
  have HP0 := Lib.hid p0
  have HP1 := Lib.hid p1
  have HP2 := Lib.hid p2
  have HRC := Lib.hid rc
  have HRF := Lib.hid rf
  have HKP := Lib.hid kp
  clear p0 p1 p2 rc rf kp k0 k1 k2 k3 k4 k5 kf
  refine wp_region_held_drew (S := (fun W' => B + 3 < W'.heap.size)) (by kernel_rfl) (HTOP.out _ HBD.out) (fun hHeld => ?_)
  (try simp only [Act.put, List.setIfInBounds_toArray, List.set_cons_zero, List.set_cons_succ])
  (refine takeH (i := 0) (v := ?_) rfl (by kernel_rfl) (by kernel_rfl) (by kernel_rfl) (fun _ _ _ h => h) (Or.inl ⟨by first | kernel_rfl | rfl, ?_⟩) (by assumption) ?_; rotate_left; (focus (intro w' hSw; (try dsimp only at hSw); go_simp; try (with_reducible rfl))))
  (refine takeH (i := 1) (v := ?_) rfl (by kernel_rfl) (by kernel_rfl) (by kernel_rfl) (fun _ _ _ h => h) (Or.inl ⟨by first | kernel_rfl | rfl, ?_⟩) (by assumption) ?_; rotate_left; (focus (intro w' hSw; (try dsimp only at hSw); go_simp; try (with_reducible rfl))))
  (refine takeH (i := 3) (v := ?_) rfl (by kernel_rfl) (by kernel_rfl) (by kernel_rfl) (fun _ _ _ h => h) (Or.inl ⟨by first | kernel_rfl | rfl, ?_⟩) (by assumption) ?_; rotate_left; (focus (intro w' hSw; (try dsimp only at hSw); go_simp; try (with_reducible rfl))))
  (refine takeH (i := 4) (v := ?_) rfl (by kernel_rfl) (by kernel_rfl) (by kernel_rfl) (fun _ _ _ h => h) (Or.inl ⟨by first | kernel_rfl | rfl, ?_⟩) (by assumption) ?_; rotate_left; (focus (intro w' hSw; (try dsimp only at hSw); go_simp; try (with_reducible rfl))); (try simp only [Act.put, List.setIfInBounds_toArray, List.set_cons_zero, List.set_cons_succ]))
  refine twoH (i := 2) (j := 5) (by kernel_rfl) rfl rfl (fun K hK => ?o1) (fun K hK => ?o2)
  case' o1 =>
   go_simp
   go_at_call 16
   refine (HCL.out _ (HB.out.trans (HBD.out.mono HB.out.size))).mono ?_
   rintro e w11 ⟨⟨g, c, rfl, hc1, hc2, hg, hrow⟩, hb11⟩
   have HB11 := Lib.hid (HBD.out.trans (hb11.mono HBD.out.size))
   have HR11 := Lib.hid hrow
   have HG11 := Lib.hid (show B + 3 < g from Nat.lt_of_lt_of_le (HTOP.out _ HBD.out) hg)
   have HGG := Lib.hid hg
   go_wp2_with fail
   refine hK.out _ _ (HTOP.out _ HB11.out) (fun hHeld => ?_)
   clear hK K hb11 hrow hg
   (try simp only [Act.put, List.setIfInBounds_toArray, List.set_cons_zero, List.set_cons_succ])
   refine oneH (i := 5) (by kernel_rfl) rfl (fun K hK => ?_)
   go_simp
   refine hK.out _ (w11.alloc (.cells #[.bool false, .bool false, .int .i64 0, .int .i64 0, .bool false, .bool false, .bool false, .bool false, .bool false, .int .i64 0, .int .i64 0, .slice none 0 0] 48)) (HTOP.out _ (below_new HB11.out (Nat.le_refl _) _)) (fun hHeld => ?_)
   clear hK K
   (try simp only [Act.put, List.setIfInBounds_toArray, List.set_cons_zero, List.set_cons_succ])
   have HBL : Hid (Below W.heap.size W (w11.alloc (.cells #[.bool false, .bool false, .int .i64 0, .int .i64 0, .bool false, .bool false, .bool false, .bool false, .bool false, .int .i64 0, .int .i64 0, .slice none 0 0] 48))) := Lib.hid (below_new HB11.out (Nat.le_refl _) _)
   have HRL : Hid (Row (w11.alloc (.cells #[.bool false, .bool false, .int .i64 0, .int .i64 0, .bool false, .bool false, .bool false, .bool false, .bool false, .int .i64 0, .int .i64 0, .slice none 0 0] 48)) g [0, 1, 0, 0, 0, 0, 0, 0, 0]) := Lib.hid (HR11.out.below (below_new (Below.refl _ _) (Nat.le_refl _) _))
   have hhI : (w11.alloc (.cells #[.bool false, .bool false, .int .i64 0, .int .i64 0, .bool false, .bool false, .bool false, .bool false, .bool false, .int .i64 0, .int .i64 0, .slice none 0 0] 48)).heap[w11.heap.size]? = some (.cells #[.bool false, .bool false, .int .i64 0, .int .i64 0, .bool false, .bool false, .bool false, .bool false, .bool false, .int .i64 0, .int .i64 0, .slice none 0 0] 48) := heap_alloc_new _ _
   have hqi : B + 3 < w11.heap.size := HTOP.out _ HB11.out
   have hgq : w11.heap.size ≠ g := fun e => by have := HR11.out.lt; omega
   obtain ⟨WL, hWL⟩ : ∃ x, x = (w11.alloc (.cells #[.bool false, .bool false, .int .i64 0, .int .i64 0, .bool false, .bool false, .bool false, .bool false, .bool false, .int .i64 0, .int .i64 0, .slice none 0 0] 48)) := ⟨_, rfl⟩
   obtain ⟨qi, hqe⟩ : ∃ x, x = w11.heap.size := ⟨_, rfl⟩
   rw [← hqe] at hhI hqi hgq ⊢
   rw [← hWL] at HBL HRL hhI ⊢
   clear hWL hqe
  case' o2 =>
   go_simp
   refine hK.out _ (W.drew.alloc (.cells #[.bool false, .bool false, .int .i64 0, .int .i64 0, .bool false, .bool false, .bool false, .bool false, .bool false, .int .i64 0, .int .i64 0, .slice none 0 0] 48)) (HTOP.out _ (below_new HBD.out (Nat.le_refl _) _)) (fun hHeld => ?_)
   clear hK K
   (try simp only [Act.put, List.setIfInBounds_toArray, List.set_cons_zero, List.set_cons_succ])
   have HBA : Hid (Below W.heap.size W (W.drew.alloc (.cells #[.bool false, .bool false, .int .i64 0, .int .i64 0, .bool false, .bool false, .bool false, .bool false, .bool false, .int .i64 0, .int .i64 0, .slice none 0 0] 48))) := Lib.hid (below_new HBD.out (Nat.le_refl _) _)
   refine oneH (i := 2) (by kernel_rfl) rfl (fun K hK => ?_)
   go_simp
   go_at_call 16
   refine (HCL.out _ (HB.out.trans (HBA.out.mono HB.out.size))).mono ?_
   rintro e w11 ⟨⟨g, c, rfl, hc1, hc2, hg, hrow⟩, hb11⟩
   have HB11 := Lib.hid (HBA.out.trans (hb11.mono HBA.out.size))
   have HR11 := Lib.hid hrow
   have HG11 := Lib.hid (show B + 3 < g from Nat.lt_of_lt_of_le (HTOP.out _ HBA.out) hg)
   have HGG := Lib.hid hg
   have HHB11 := Lib.hid hb11
   go_wp2_with fail
   refine hK.out _ _ (HTOP.out _ HB11.out) (fun hHeld => ?_)
   clear hK K hb11 hrow hg
   (try simp only [Act.put, List.setIfInBounds_toArray, List.set_cons_zero, List.set_cons_succ])
   have HBL : Hid (Below W.heap.size W w11) := Lib.hid (HB11.out)
   have HRL : Hid (Row w11 g [0, 1, 0, 0, 0, 0, 0, 0, 0]) := Lib.hid (HR11.out)
   have hhI : w11.heap[(B + 4)]? = some (.cells #[.bool false, .bool false, .int .i64 0, .int .i64 0, .bool false, .bool false, .bool false, .bool false, .bool false, .int .i64 0, .int .i64 0, .slice none 0 0] 48) := (HHB11.out.block _ (by simp; omega)).trans (by rw [show B + 4 = W.drew.heap.size from hsz.symm]; exact heap_alloc_new _ _)
   have hqi : B + 3 < (B + 4) := by omega
   have hgq : (B + 4) ≠ g := fun e => by have := HGG.out; simp [hsz] at this; omega
   obtain ⟨WL, hWL⟩ : ∃ x, x = w11 := ⟨_, rfl⟩
   obtain ⟨qi, hqe⟩ : ∃ x, x = (B + 4) := ⟨_, rfl⟩
   rw [← hqe] at hhI hqi hgq ⊢
   rw [← hWL] at HBL HRL hhI ⊢
   clear hWL hqe
  all_goals
   have hlL' : B + 3 < WL.heap.size := HTOP.out _ HBL.out
   (refine takeH (i := 6) (v := ?_) rfl (by kernel_rfl) (by kernel_rfl) (by kernel_rfl) (fun _ _ _ h => h) (Or.inl ⟨by first | kernel_rfl | rfl, ?_⟩) (by assumption) ?_; rotate_left; (focus (intro w' hSw; (try dsimp only at hSw); go_simp; try (with_reducible rfl))))
   (refine takeH (i := 7) (v := ?_) rfl (by kernel_rfl) (by kernel_rfl) (by kernel_rfl) (fun _ _ _ h => h) (Or.inl ⟨by first | kernel_rfl | rfl, ?_⟩) (by assumption) ?_; rotate_left; (focus (intro w' hSw; (try dsimp only at hSw); go_simp; try (with_reducible rfl))))
   (refine takeH (i := 8) (v := ?_) rfl (by kernel_rfl) (by kernel_rfl) (by kernel_rfl) (fun _ _ _ h => h) (Or.inl ⟨by first | kernel_rfl | rfl, ?_⟩) (by assumption) ?_; rotate_left; (focus (intro w' hSw; (try dsimp only at hSw); go_simp; try (with_reducible rfl))); (try simp only [Act.put, List.setIfInBounds_toArray, List.set_cons_zero, List.set_cons_succ]))
   have q0 : WL.cell? ⟨B + 3, 0, none⟩ = some v0 := (HBL.out.cell (p := ⟨B + 3, 0, none⟩) hlB).trans HK0.out
   have q1 : WL.cell? ⟨B + 3, 1, none⟩ = some v1 := (HBL.out.cell (p := ⟨B + 3, 1, none⟩) hlB).trans HK1.out
   have q2 : WL.cell? ⟨B + 3, 2, none⟩ = some v2 := (HBL.out.cell (p := ⟨B + 3, 2, none⟩) hlB).trans HK2.out
   have q3 : WL.cell? ⟨B + 3, 3, none⟩ = some v3 := (HBL.out.cell (p := ⟨B + 3, 3, none⟩) hlB).trans HK3.out
   have qf : ∀ o, WL.frozen? ⟨B + 3, o, none⟩ = false := fun o => (HBL.out.frozen (p := ⟨B + 3, o, none⟩) hlB).trans (HKF.out o)
   have hlL : B + 3 < WL.heap.size := HTOP.out _ HBL.out
   have HAX := Lib.hid (ax_start (c := c) hBw HB.out hlB HP0.out HP1.out HP2.out HRC.out HRF.out HKP.out HK0.out HK1.out HK2.out HK3.out HK4.out HK5.out HKF.out HBL.out HRL.out hhI HG11.out hqi hgq)
   refine oneH (i := 9) (by kernel_rfl) rfl (fun Kc hK => ?_)
   go_simp
   refine hK.out _ _ ?hS9 (fun hHeld => ?_)
   case hS9 => exact HAX.out.lt
   clear hK Kc q0 q1 q2 q3 qf hhI
   (try simp only [Act.put, List.setIfInBounds_toArray, List.set_cons_zero, List.set_cons_succ])
   refine wpAnyH_done (by kernel_rfl) ?_ _
   (try simp only [Act.put, List.setIfInBounds_toArray, List.set_cons_zero, List.set_cons_succ])
   go_wp2_with fail
   go_meet
   case rel => exact ⟨g, c, qi, 1, hc1, hc2, HAX⟩
 case rest =>
  obtain ⟨g, c, qi, ci, hc1, hc2, HAX⟩ := hcut
  clear p0 p1 p2 rc rf kp k0 k1 k2 k3 k4 k5 kf hsz HB HCL hmkb hmki hlB HZ
  have k2 := HAX.out.a.k2
  have lK := HAX.out.a.lK
  go_wp2_with fail
  clear k2 lK
  go_loopw [40] (fun u wr => ∃ (k : Nat), k ≤ 1 ∧ u = .int .i64 k ∧ Hid (AX w wr H B g c qi ci 1 (.slice none 0 0) [0, 1, 0, 0, 0, 0, 0, 0, 0])) (fun u _ => 1 - (intOf u).toNat)
  case atStart => exact ⟨0, by omega, rfl, HAX⟩
  case round =>
   obtain ⟨k, hk, rfl, HAXR⟩ := hrel
   clear HAX
   rcases (show k = 0 ∨ k = 1 by omega) with rfl | rfl
   ·have k2 := HAXR.out.a.k2
    have lK := HAXR.out.a.lK
    have lq := HAXR.out.a.lq
    obtain ⟨z9, i9⟩ := HAXR.out.i9
    have qf := HAXR.out.a.qf 9
    go_upto_region 8 with (fail)
    refine wp_name fun W7 hW7 => ?_
    have HAX7 : Hid (AX w W7 H B g c qi ci 1 (.slice none 0 0) [0, 1, 0, 0, 0, 0, 0, 0, 0]) := Lib.hid (by
     rw [hW7.out]
     refine HAXR.out.putI 9 (by decide) _ ?_ ⟨100, by go_simp⟩
     obtain ⟨b8, h8⟩ := HAXR.out.i8
     exact ⟨b8, (World.cell?_setCell_other _ _ _ _ (by simp)).trans h8⟩)
    clear hW7 k2 lK lq i9 qf HAXR
    go_wp2
    go_roundw
    case rel => exact ⟨1, by omega, by go_num, HAX7⟩
    case measure => simp [intOf]
   ·have p0 := HAXR.out.p0
    have p1 := HAXR.out.p1
    have p2 := HAXR.out.p2
    have lK := HAXR.out.a.lK
    have lB : B < wr.heap.size := by omega
    go_wp2_with fail
    refine (layof_any hlP _ wr (HP.out.keep HAXR.out.a.old) hlP_ok (by decide) (HT.out.on HAXR.out.a.old)).mono ?_
    rintro e w2 ⟨⟨v2', rfl, ⟨vA, vF, rfl, -, -⟩⟩, hb2⟩
    rw [hlP_sum]
    have hfd : ∀ W : World, (Instr.field 33 (.agg #[vA, .int .i64 9, vF]) 1).run Tryd.prog W = .ok (.int .i64 9) W := fun W => by kernel_rfl
    have HAX2 := Lib.hid (HAXR.out.below hb2)
    clear hb2 p0 p1 p2 lK lB HAXR
    go_upto_region 11 with (fail)
    have HSB : Hid (∀ W', Below w2.heap.size w2 W' → W'.cell? ⟨B, 0, none⟩ = some (.string ⟨#[112]⟩) ∧ W'.cell? ⟨B, 1, none⟩ = some (.slice (some ⟨H, 0, none⟩) 1 1) ∧ W'.cell? ⟨B, 2, none⟩ = some (.slice none 0 0) ∧ W'.cell? ⟨B + 3, 0, none⟩ = some (.slice (some ⟨g, 0, none⟩) 9 c) ∧ B < W'.heap.size ∧ B + 3 < W'.heap.size) := Lib.hid (fun W' hW' => by
     have h := HAX2.out.below hW'
     have hl := h.lt
     exact ⟨h.p0, h.p1, h.p2, h.k0, by omega, hl⟩)
    have HBD : Hid (Below w2.heap.size w2 w2.drew) := Lib.hid (by exact belowBy)
    refine wp_region_held_drew (S := (fun W' => W'.cell? ⟨B, 0, none⟩ = some (.string ⟨#[112]⟩) ∧ W'.cell? ⟨B, 1, none⟩ = some (.slice (some ⟨H, 0, none⟩) 1 1) ∧ W'.cell? ⟨B, 2, none⟩ = some (.slice none 0 0) ∧ W'.cell? ⟨B + 3, 0, none⟩ = some (.slice (some ⟨g, 0, none⟩) 9 c) ∧ B < W'.heap.size ∧ B + 3 < W'.heap.size)) (by kernel_rfl) (HSB.out _ HBD.out) (fun hHeld => ?_)
    (try simp only [Act.put, List.setIfInBounds_toArray, List.set_cons_zero, List.set_cons_succ])
    (refine takeH (i := 0) (v := ?_) rfl (by kernel_rfl) (by kernel_rfl) (by kernel_rfl) (fun _ _ _ h => h) (Or.inl ⟨by first | kernel_rfl | rfl, ?_⟩) (by assumption) ?_; rotate_left; (focus (intro w' hSw; (try dsimp only at hSw); go_simp; try (with_reducible rfl))))
    (refine takeH (i := 1) (v := ?_) rfl (by kernel_rfl) (by kernel_rfl) (by kernel_rfl) (fun _ _ _ h => h) (Or.inl ⟨by first | kernel_rfl | rfl, ?_⟩) (by assumption) ?_; rotate_left; (focus (intro w' hSw; (try dsimp only at hSw); go_simp; try (with_reducible rfl))))
    (refine takeH (i := 2) (v := ?_) rfl (by kernel_rfl) (by kernel_rfl) (by kernel_rfl) (fun _ _ _ h => h) (Or.inl ⟨by first | kernel_rfl | rfl, ?_⟩) (by assumption) ?_; rotate_left; (focus (intro w' hSw; (try dsimp only at hSw); go_simp; try (with_reducible rfl))))
    (refine takeH (i := 3) (v := ?_) rfl (by kernel_rfl) (by kernel_rfl) (by kernel_rfl) (fun _ _ _ h => h) (Or.inl ⟨by first | kernel_rfl | rfl, ?_⟩) (by assumption) ?_; rotate_left; (focus (intro w' hSw; (try dsimp only at hSw); go_simp; try (with_reducible rfl))))
    (refine takeH (i := 4) (v := ?_) rfl (by kernel_rfl) (by kernel_rfl) (by kernel_rfl) (fun _ _ _ h => h) (Or.inl ⟨by first | kernel_rfl | rfl, ?_⟩) (by assumption) ?_; rotate_left; (focus (intro w' hSw; (try dsimp only at hSw); go_simp; try (with_reducible rfl))))
    (refine takeH (i := 5) (v := ?_) rfl (by kernel_rfl) (by kernel_rfl) (by kernel_rfl) (fun _ _ _ h => h) (Or.inl ⟨by first | kernel_rfl | rfl, ?_⟩) (by assumption) ?_; rotate_left; (focus (intro w' hSw; (try dsimp only at hSw); go_simp; try (with_reducible rfl))))
    (refine takeH (i := 8) (v := ?_) rfl (by kernel_rfl) (by kernel_rfl) (by kernel_rfl) (fun _ _ _ h => h) (Or.inl ⟨by first | kernel_rfl | rfl, ?_⟩) (by assumption) ?_; rotate_left; (focus (intro w' hSw; (try dsimp only at hSw); go_simp; try (with_reducible rfl))); (try simp only [Act.put, List.setIfInBounds_toArray, List.set_cons_zero, List.set_cons_succ]))
    refine oneH (i := 6) (by kernel_rfl) rfl (fun Kc hK => ?_)
    go_simp
    go_at_call 17
    refine (inst_at hlP _ g 9 c (some ⟨g, 0, none⟩) _ (HP.out.keep (HAX2.out.below HBD.out).a.old) hlP_ok hlP_mot (by decide) (HT.out.on (HAX2.out.below HBD.out).a.old) (fun _ => rfl) (by rw [hlP_sum]; decide) ⟨hc1, hc2⟩).mono ?_
    rintro e w3 ⟨⟨v3, rfl, hown3⟩, hb3⟩
    have hb3' : Below w2.heap.size w2 w3 := HBD.out.trans (hb3.mono HBD.out.size)
    have HAX3 := Lib.hid (HAX2.out.below hb3')
    rw [hlP_blks] at hown3
    obtain ⟨q, k3, rfl, hq1, hq2⟩ := hown3.form (by decide)
    have hq0 : w3.cell? ⟨q, 0, none⟩ = some (.int .i64 0) := owns_cellN hown3 rfl rfl
    have hq1' : w3.cell? ⟨q, 1, none⟩ = some (.int .i64 23) := owns_cellN hown3 rfl rfl
    have hq2' : w3.cell? ⟨q, 2, none⟩ = some (.slice (some ⟨g, 0, none⟩) 9 c) := by
     have := owns_cellN (j := 2) hown3 rfl rfl
     rw [this, hl_rcount, Nat.sub_zero]
    have HQ := Lib.hid (⟨hq0, hq1', hq2', hq2⟩ : w3.cell? ⟨q, 0, none⟩ = some (.int .i64 0) ∧ w3.cell? ⟨q, 1, none⟩ = some (.int .i64 23) ∧ w3.cell? ⟨q, 2, none⟩ = some (.slice (some ⟨g, 0, none⟩) 9 c) ∧ q < w3.heap.size)
    have HSB3 := Lib.hid (HSB.out w3 hb3')
    clear hown3 hb3 hb3' hq0 hq1' hq2' hq1 hq2 HAX2 HBD HSB
    go_wp2_with fail
    refine hK.out _ _ HSB3.out (fun hHeld => ?_)
    clear hK Kc
    (try simp only [Act.put, List.setIfInBounds_toArray, List.set_cons_zero, List.set_cons_succ])
    (refine takeH (i := 7) (v := ?_) rfl (by kernel_rfl) (by kernel_rfl) (by kernel_rfl) (fun _ _ _ h => h) (Or.inl ⟨by first | kernel_rfl | rfl, ?_⟩) (by assumption) ?_; rotate_left; (focus (intro w' hSw; (try dsimp only at hSw); go_simp; try (with_reducible rfl))); (try simp only [Act.put, List.setIfInBounds_toArray, List.set_cons_zero, List.set_cons_succ]))
    refine wpAnyH_done (by kernel_rfl) ?_ _
    (try simp only [Act.put, List.setIfInBounds_toArray, List.set_cons_zero, List.set_cons_succ])
    clear hHeld HSB3
    go_wp2_with fail
    go_loopw [75] (fun u wr => (u = .int .i64 0 ∧ Hid (AX w wr H B g c qi ci 1 (.slice none 0 0) [0, 1, 0, 0, 0, 0, 0, 0, 0]) ∧ Hid (wr.cell? ⟨q, 0, none⟩ = some (.int .i64 0) ∧ wr.cell? ⟨q, 1, none⟩ = some (.int .i64 23) ∧ wr.cell? ⟨q, 2, none⟩ = some (.slice (some ⟨g, 0, none⟩) 9 c) ∧ q < wr.heap.size)) ∨ (u = .int .i64 1 ∧ ∃ hh kc, Hid (AX w wr H B g c qi ci 2 (.slice (some ⟨hh, 0, none⟩) 1 kc) [0, 1, 0, 1, 0, 0, 0, 1, 1]) ∧ Hid (wr.cell? ⟨hh, 1, none⟩ = some (.int .i64 5) ∧ hh < wr.heap.size ∧ qi < hh ∧ B + 3 < hh))) (fun u _ => 1 - (intOf u).toNat)
    case atStart => exact .inl ⟨rfl, HAX3, HQ⟩
    case round =>
     clear HAX3 HQ
     rcases hrel with ⟨rfl, HAX4, HQ4⟩ | ⟨rfl, hh, kc, HAX4, HX4⟩
     ·obtain ⟨q0, q1, q2, lq⟩ := HQ4.out
      go_upto_region 14 with (fail)
      refine wp_name fun W5 hW5 => ?_
      obtain ⟨V, hV⟩ : ∃ x, x = wr.heap.size := ⟨_, rfl⟩
      have hb5 : Below wr.heap.size wr W5 := by rw [hW5.out]; exact belowBy
      have v0 : W5.cell? ⟨V, 0, none⟩ = some (.int .i64 0) := by rw [hW5.out, hV]; go_simp
      have v1 : W5.cell? ⟨V, 1, none⟩ = some (.int .i64 23) := by rw [hW5.out, hV]; go_simp
      have v2 : W5.cell? ⟨V, 2, none⟩ = some (.slice (some ⟨g, 0, none⟩) 9 c) := by rw [hW5.out, hV]; go_simp
      have lV : V < W5.heap.size := by rw [hW5.out, hV]; simp
      have HAX5 := Lib.hid (HAX4.out.below hb5)
      (try rw [← hV])
      clear hW5 hb5 q0 q1 q2 lq HQ4 HAX4 hV
      go_wp2_with fail
      refine (commands_any 23 _).mono ?_
      rintro e w' ⟨rfl, rfl⟩
      rw [show cmdB 23 = true from rfl]
      go_wp2_with fail
      refine (asks23_at g c (B + 3) qi ci w W5 ⟨hc1, hc2⟩ HT.out HAX5.out.a).mono ?_
      rintro e w6 ⟨rfl, hh, kc, hAS, h5, hlt, hge, -, -⟩
      have HAX6 := Lib.hid (HAX5.out.asked hAS)
      have HX6 : Hid (w6.cell? ⟨hh, 1, none⟩ = some (.int .i64 5) ∧ hh < w6.heap.size ∧ qi < hh ∧ B + 3 < hh) := Lib.hid ⟨h5, hlt, Nat.lt_of_lt_of_le HAX5.out.a.lq hge, Nat.lt_of_lt_of_le HAX5.out.lt hge⟩
      clear hAS h5 hlt hge HAX5 v0 v1 v2 lV
      go_wp2
      go_roundw
      case rel => exact .inr ⟨by go_num, hh, kc, HAX6, HX6⟩
      case measure => simp [intOf]
     ·have k5 := HAX4.out.k5
      have lK := HAX4.out.lt
      go_wp2_with fail
      clear k5 lK
      go_loopw [137] (fun u wr => ∃ (k : Nat), k ≤ 1 ∧ u = .int .i64 k ∧ Hid (AX w wr H B g c qi ci 2 (.slice (some ⟨hh, 0, none⟩) 1 kc) [0, 1, 0, 1, 0, 0, 0, 1, 1]) ∧ Hid (wr.cell? ⟨hh, 1, none⟩ = some (.int .i64 5) ∧ hh < wr.heap.size ∧ qi < hh ∧ B + 3 < hh)) (fun u _ => 1 - (intOf u).toNat)
      case atStart => exact ⟨0, by omega, rfl, HAX4, HX4⟩
      case round =>
       obtain ⟨k, hk, rfl, HAX7, HX7⟩ := hrel
       clear HAX4 HX4
       rcases (show k = 0 ∨ k = 1 by omega) with rfl | rfl
       ·have k2 := HAX7.out.a.k2
        have kp := HAX7.out.kp
        have lK := HAX7.out.a.lK
        have lB2 : B + 2 < wr.heap.size := by omega
        have lq := HAX7.out.a.lq
        obtain ⟨z8, i8⟩ := HAX7.out.i8
        have qf := HAX7.out.a.qf 8
        go_upto_region 31 with (fail)
        refine wp_name fun W8 hW8 => ?_
        have HAX8 : Hid (AX w W8 H B g c qi ci 2 (.slice (some ⟨hh, 0, none⟩) 1 kc) [0, 1, 0, 1, 0, 0, 0, 1, 1]) := Lib.hid (by
         rw [hW8.out]
         refine HAX7.out.putI 8 (by decide) _ ⟨true, by go_simp⟩ ?_
         obtain ⟨z9, h9⟩ := HAX7.out.i9
         exact ⟨z9, (World.cell?_setCell_other _ _ _ _ (by simp)).trans h9⟩)
        have HX8 : Hid (W8.cell? ⟨hh, 1, none⟩ = some (.int .i64 5) ∧ hh < W8.heap.size ∧ qi < hh ∧ B + 3 < hh) := Lib.hid (by
         obtain ⟨h1, h2, h3, h4⟩ := HX7.out
         rw [hW8.out]
         exact ⟨(World.cell?_setCell_other _ _ _ _ (fun e => by injection e with e1 e2; omega)).trans h1, by simpa [World.setCell] using h2, h3, h4⟩)
        clear hW8 k2 kp lK lq lB2 i8 qf HAX7 HX7
        go_wp2
        go_roundw
        case rel => exact ⟨1, by omega, by go_num, HAX8, HX8⟩
        case measure => simp [intOf]
       ·have k0 := HAX7.out.k0
        have k1 := HAX7.out.a.k1
        have k2 := HAX7.out.a.k2
        have k3 := HAX7.out.k3
        have lK := HAX7.out.lt
        obtain ⟨x0, r0⟩ := HAX7.out.rc 0 (by decide)
        obtain ⟨x1, r1⟩ := HAX7.out.rc 1 (by decide)
        obtain ⟨x2, r2⟩ := HAX7.out.rc 2 (by decide)
        obtain ⟨x3, r3⟩ := HAX7.out.rc 3 (by decide)
        have rf0 := HAX7.out.rf 0
        have rf1 := HAX7.out.rf 1
        have rf2 := HAX7.out.rf 2
        have rf3 := HAX7.out.rf 3
        have lR : B + 1 < wr.heap.size := by omega
        go_wp2
        refine bodyPost_ret (v := .agg #[.slice (some ⟨g, 0, none⟩) 9 c, .int .i64 2, .slice (some ⟨qi, 0, none⟩) 1 ci, .slice none 0 0]) (by simp [results, Tryd.results9, go_sem, r0, r1, r2, r3, rf0, rf1, rf2, rf3]) rfl ⟨⟨g, c, qi, ci, hh, kc, rfl, ?_, ?_, ?_, ?_, ?_⟩, ?_⟩
        ·exact row_but HAX7.out.a.row (((((But.refl (B + 1) wr).set 0 _).set 1 _).set 2 _).set 3 _) (by have := HAX7.out.lg; omega)
        ·exact (But.cell (((((But.refl (B + 1) wr).set 0 _).set 1 _).set 2 _).set 3 _) qi 11 HAX7.out.a.lq (by have := HAX7.out.lq; omega)).trans HAX7.out.a.iv
        ·exact (But.cell (((((But.refl (B + 1) wr).set 0 _).set 1 _).set 2 _).set 3 _) hh 1 HX7.out.2.1 (by have := HX7.out.2.2.2; omega)).trans HX7.out.1
        ·exact Nat.lt_of_lt_of_le HAX7.out.a.lq (But.size (((((But.refl (B + 1) wr).set 0 _).set 1 _).set 2 _).set 3 _))
        ·exact Nat.lt_of_lt_of_le HX7.out.2.1 (But.size (((((But.refl (B + 1) wr).set 0 _).set 1 _).set 2 _).set 3 _))
        ·exact HAX7.out.a.old.trans (But.below (((((But.refl (B + 1) wr).set 0 _).set 1 _).set 2 _).set 3 _) _ (by omega) HAX7.out.a.old.size)

end Go.Proofs.YtknnhnefbbjcdaaDoor

namespace Go.Proofs.YtknnhnefbbjcdaaDoor
open Go.RowKit
set_option linter.unusedVariables false
set_option linter.unusedSimpArgs false
attribute [local go_sem] ite_max ite_min vite_max vite_min ext_cell ext_frozen extS_cell extS_frozen

theorem hlP_row {w : World} {H : Nat} {T : TypeId} (hh : w.heap[H]? = some (.cells hlV.cells.toArray T)) : RowV w (some ⟨H, 0, none⟩) hlP.vars 1 := by
 refine ⟨by show 1 ≤ 1; omega, by omega, by show 1 * 72 ≤ 140737488355328; omega, fun i => hlV.cells, fun _ => ⟨H, 0, rfl, (Array.getElem?_eq_some_iff.1 hh).1, fun i hi j hj => ?_⟩, fun i x hx => ?_⟩
 ·have hi : i < 1 := hi
  obtain rfl : i = 0 := by omega
  rcases (show j = 0 ∨ j = 1 ∨ j = 2 ∨ j = 3 ∨ j = 4 ∨ j = 5 ∨ j = 6 ∨ j = 7 by omega) with rfl | rfl | rfl | rfl | rfl | rfl | rfl | rfl
  all_goals exact heap_cell _ _ hh rfl
 ·rcases i with _ | i
  ·cases hx
   exact varOk_const _ (by unfold I64 hlV; decide) (by unfold I64 hlV; decide) (by unfold I64 hlV; decide) (by unfold I64 hlV; decide) (by unfold I64 hlV; decide) (by unfold I64 hlV; decide)
  ·simp [hlP] at hx
theorem hl_zeros {w : World} {Z : Nat} {T : TypeId} (hh : w.heap[Z]? = some (.cells #[.int .i64 0, .int .i64 1, .int .i64 0, .int .i64 0, .int .i64 0, .int .i64 0, .int .i64 0, .int .i64 0, .int .i64 0] T)) : RowN w (some ⟨Z, 0, none⟩) [0, 1, 0, 0, 0, 0, 0, 0, 0] 9 := by
 refine ⟨by decide, by decide, fun i z hz => ⟨Z, 0, rfl, (Array.getElem?_eq_some_iff.1 hh).1, ?_⟩⟩
 have hi : i < 9 := (List.getElem?_eq_some_iff.1 hz).1
 rw [Nat.zero_add]
 rcases (show i = 0 ∨ i = 1 ∨ i = 2 ∨ i = 3 ∨ i = 4 ∨ i = 5 ∨ i = 6 ∨ i = 7 ∨ i = 8 by omega) with rfl | rfl | rfl | rfl | rfl | rfl | rfl | rfl | rfl
 all_goals (cases hz; exact heap_cell _ _ hh rfl)

set_option maxRecDepth 100000 in
set_option maxHeartbeats 4000000 in
theorem awake27 (w : World) (ht : Blanks w) : Calls Tryd.prog 4 #[] w fun e w' => e = .returned (.bool true) ∧ Below w.heap.size w w' := by
 have HT := Lib.hid ht
 clear ht
 go_enter Tryd.func4, Tryd.ntmps4
 go_upto_region 2 with (fail)
 refine wp_name fun W hW => ?_
 obtain ⟨H, hH⟩ : ∃ H, H = w.heap.size := ⟨_, rfl⟩
 have hh : W.heap[H]? = some (.cells hlV.cells.toArray 45) := by rw [hW.out, hH]; exact (heap_alloc_old _ _ (by simp)).trans (heap_alloc_new _ _)
 have hP : PrgC W (H + 1) ⟨#[112]⟩ (some ⟨H, 0, none⟩) 1 1 none 0 0 := by
  refine ⟨by rw [hW.out, hH]; simp, ?_, ?_, ?_⟩
  all_goals (rw [hW.out, hH]; go_simp)
 have hbel : Below w.heap.size w W := by rw [hW.out]; exact belowBy
 have hrow := hlP_row hh
 have hbz : Below W.heap.size W (W.alloc (.cells #[.int .i64 0, .int .i64 1, .int .i64 0, .int .i64 0, .int .i64 0, .int .i64 0, .int .i64 0, .int .i64 0, .int .i64 0] 2)) := below_new (Below.refl _ _) (Nat.le_refl _) _
 have HBZ := Lib.hid (hbel.trans (hbz.mono hbel.size))
 have HPA : Hid (PrgAt (W.alloc (.cells #[.int .i64 0, .int .i64 1, .int .i64 0, .int .i64 0, .int .i64 0, .int .i64 0, .int .i64 0, .int .i64 0, .int .i64 0] 2)) hlP [.string ⟨#[112]⟩, .slice (some ⟨H, 0, none⟩) 1 1, .slice none 0 0]) := Lib.hid ⟨_, _, _, _, rfl, hrow.below hbz, rowT_nil _⟩
 have HZ := Lib.hid (hl_zeros (heap_alloc_new W (.cells #[.int .i64 0, .int .i64 1, .int .i64 0, .int .i64 0, .int .i64 0, .int .i64 0, .int .i64 0, .int .i64 0, .int .i64 0] 2)))
 rw [show w.heap.size + 1 = H + 1 by omega]
 obtain ⟨lP, p0, p1, p2⟩ := hP
 clear hW hbel hH hh hrow hbz
 go_wp2_with fail
 refine (ask27_at H W.heap.size _ (HT.out.on HBZ.out) HPA.out HZ.out).mono ?_
 rintro e w2 ⟨⟨g, c, qi, ci, hx, kc, rfl, hrow, hi, h5, lq, lh⟩, hb2⟩
 have HB2 := Lib.hid (HBZ.out.trans (hb2.mono HBZ.out.size))
 have c3 := hrow.cell 3 1 rfl
 have c8 := hrow.cell 8 1 rfl
 have lg := hrow.lt
 clear hrow hb2 HBZ HPA HZ lP p0 p1 p2
 go_upto_region 3 with (fail)
 refine wp_name fun W3 hW3 => ?_
 have hb3 : Below w2.heap.size w2 W3 := by rw [hW3.out]; exact belowBy
 obtain ⟨K, hK⟩ : ∃ H, H = w2.heap.size := ⟨_, rfl⟩
 have k0 : W3.cell? ⟨K, 0, none⟩ = some (.slice (some ⟨g, 0, none⟩) 9 c) := by rw [hW3.out, hK]; go_simp
 have k1 : W3.cell? ⟨K, 1, none⟩ = some (.int .i64 2) := by rw [hW3.out, hK]; go_simp
 have k2 : W3.cell? ⟨K, 2, none⟩ = some (.slice (some ⟨qi, 0, none⟩) 1 ci) := by rw [hW3.out, hK]; go_simp
 have lK : K < W3.heap.size := by rw [hW3.out, hK]; simp
 have d3 := (hb3.cell (p := ⟨g, 3, none⟩) lg).trans c3
 have d8 := (hb3.cell (p := ⟨g, 8, none⟩) lg).trans c8
 have di := (hb3.cell (p := ⟨qi, 11, none⟩) lq).trans hi
 have d5 := (hb3.cell (p := ⟨hx, 1, none⟩) lh).trans h5
 have hz3 := hb3.size
 have lg3 : g < W3.heap.size := by omega
 have lq3 : qi < W3.heap.size := by omega
 have lh3 : hx < W3.heap.size := by omega
 have HB3 := Lib.hid (HB2.out.trans (hb3.mono HB2.out.size))
 (try rw [← hK])
 clear hW3 hb3 c3 c8 hi h5 lg lq lh hK hz3 HB2
 go_wp2
 go_ret
 exact ⟨rfl, HB3.out⟩

end Go.Proofs.YtknnhnefbbjcdaaDoor
