/- Merged: Layer 12: the last command, the next one; is a line small. Layer 12: copies of rows in a drawn region; variables that hold lines and commands. Layer 12: what ends, clears, comes last and next, of any line. -/
import Derived.Test.YtogbhnmkinjpeaaGreatM13
import Derived.Deep.RegionHeld3
set_option linter.unusedVariables false
set_option linter.unusedSimpArgs false
namespace Go.Proofs.YtogbhnmkinjpeaaGreat
open Go.RowKit
attribute [local go_sem] ite_max ite_min vite_max vite_min ext_cell ext_frozen extS_cell extS_frozen

def cmd0 : CmdS := ⟨0, 0, 0, 0, 0, 0, 0⟩
def OnePost (w : World) (x : CmdS) (ok : Bool) (e : Ending) (w' : World) : Prop := e = .returned (.tuple #[.agg #[.int .i64 x.id, .int .i64 x.kind, .int .i64 x.target, .int .i64 x.speed, .int .i64 x.mode, .int .i64 x.num, .int .i64 x.den], .bool ok]) ∧ Below w.heap.size w w'

set_option maxRecDepth 100000 in
set_option maxHeartbeats 1000000 in
theorem llast_no (ns ws : List CmdS) (v : Value) (base : Nat) (w : World) (h : LineV w base ns ws v) (g1 : ns.length ≤ 400) (g2 : ws.length ≤ 400) (hr : lineB ns ws = false) :
  Calls Tryz.prog 95 #[v] w fun e w' => OnePost w cmd0 false e w' := by
 have HL := Lib.hid h
 have HR := Lib.hid hr
 obtain ⟨a, b, rfl⟩ := h.form
 clear h hr
 go_enter Tryz.func95, Tryz.ntmps95
 go_wp2_with fail
 refine (lall_at ns ws _ base _ (HL.out.below ?b1) g1 g2).mono ?_
 case b1 => exact belowBy
 rintro e w1 ⟨⟨v9, rfl, ho⟩, hb1⟩
 obtain ⟨A9, c9, rfl, -⟩ := own_form ho
 clear ho
 generalize (ns ++ ws).length = N at *
 obtain ⟨hb1c, hb1f⟩ := bcell hb1
 have hb1z := hb1.size
 have hb1c0 := fun o => hb1c (w.heap.size) o sideBy
 have hb1f0 := fun o => hb1f (w.heap.size) o sideBy
 have hb1l0 := below_lt (b := w.heap.size) hb1 sideBy
 have hb1c1 := fun o => hb1c (w.heap.size + 1) o sideBy
 have hb1f1 := fun o => hb1f (w.heap.size + 1) o sideBy
 have hb1l1 := below_lt (b := w.heap.size + 1) hb1 sideBy
 have hB1 : Below w.heap.size w w1 := by exact belowBy
 clear hb1
 go_wp2_with fail
 refine (lright_at ns ws _ base false _ (HL.out.below hB1) HR.out).mono ?_
 rintro e w2 ⟨rfl, hb2⟩
 obtain ⟨hb2c, hb2f⟩ := bcell hb2
 have hb2z := hb2.size
 have hb2c0 := fun o => hb2c (w.heap.size + 1) o sideBy
 have hb2f0 := fun o => hb2f (w.heap.size + 1) o sideBy
 have hb2l0 := below_lt (b := w.heap.size + 1) hb2 sideBy
 have z0 : w2.cell? ⟨w.heap.size + 1, 0, none⟩ = some (.int .i64 0) := by go_simp
 have z1 : w2.cell? ⟨w.heap.size + 1, 1, none⟩ = some (.int .i64 0) := by go_simp
 have z2 : w2.cell? ⟨w.heap.size + 1, 2, none⟩ = some (.int .i64 0) := by go_simp
 have z3 : w2.cell? ⟨w.heap.size + 1, 3, none⟩ = some (.int .i64 0) := by go_simp
 have z4 : w2.cell? ⟨w.heap.size + 1, 4, none⟩ = some (.int .i64 0) := by go_simp
 have z5 : w2.cell? ⟨w.heap.size + 1, 5, none⟩ = some (.int .i64 0) := by go_simp
 have z6 : w2.cell? ⟨w.heap.size + 1, 6, none⟩ = some (.int .i64 0) := by go_simp
 have zf : ∀ o, w2.frozen? ⟨w.heap.size + 1, o, none⟩ = false := fun o => by go_simp
 go_wp2
 exact bodyPost_ret (v := .tuple #[.agg #[.int .i64 0, .int .i64 0, .int .i64 0, .int .i64 0, .int .i64 0, .int .i64 0, .int .i64 0], .bool false]) (by simp [results, Tryz.results95, go_sem, z0, z1, z2, z3, z4, z5, z6, zf]) rfl ⟨rfl, by exact belowBy⟩

set_option maxRecDepth 100000 in
set_option maxHeartbeats 1000000 in
theorem llast_nil (v : Value) (base : Nat) (w : World) (h : LineV w base [] [] v) :
  Calls Tryz.prog 95 #[v] w fun e w' => OnePost w cmd0 false e w' := by
 have HL := Lib.hid h
 obtain ⟨a, b, rfl⟩ := h.form
 clear h
 go_enter Tryz.func95, Tryz.ntmps95
 go_wp2_with fail
 refine (lall_at [] [] _ base _ (HL.out.below ?b1) (by simp) (by simp)).mono ?_
 case b1 => exact belowBy
 rintro e w1 ⟨⟨v9, rfl, ho⟩, hb1⟩
 obtain ⟨A9, c9, rfl, -⟩ := own_form ho
 clear ho
 simp only [List.append_nil, List.length_nil]
 obtain ⟨hb1c, hb1f⟩ := bcell hb1
 have hb1z := hb1.size
 have hb1c0 := fun o => hb1c (w.heap.size) o sideBy
 have hb1f0 := fun o => hb1f (w.heap.size) o sideBy
 have hb1l0 := below_lt (b := w.heap.size) hb1 sideBy
 have hb1c1 := fun o => hb1c (w.heap.size + 1) o sideBy
 have hb1f1 := fun o => hb1f (w.heap.size + 1) o sideBy
 have hb1l1 := below_lt (b := w.heap.size + 1) hb1 sideBy
 have hB1 : Below w.heap.size w w1 := by exact belowBy
 clear hb1
 go_wp2_with fail
 refine (lright_at [] [] _ base true _ (HL.out.below hB1) rfl).mono ?_
 rintro e w2 ⟨rfl, hb2⟩
 obtain ⟨hb2c, hb2f⟩ := bcell hb2
 have hb2z := hb2.size
 have hb2c0 := fun o => hb2c (w.heap.size + 1) o sideBy
 have hb2f0 := fun o => hb2f (w.heap.size + 1) o sideBy
 have hb2l0 := below_lt (b := w.heap.size + 1) hb2 sideBy
 have z0 : w2.cell? ⟨w.heap.size + 1, 0, none⟩ = some (.int .i64 0) := by go_simp
 have z1 : w2.cell? ⟨w.heap.size + 1, 1, none⟩ = some (.int .i64 0) := by go_simp
 have z2 : w2.cell? ⟨w.heap.size + 1, 2, none⟩ = some (.int .i64 0) := by go_simp
 have z3 : w2.cell? ⟨w.heap.size + 1, 3, none⟩ = some (.int .i64 0) := by go_simp
 have z4 : w2.cell? ⟨w.heap.size + 1, 4, none⟩ = some (.int .i64 0) := by go_simp
 have z5 : w2.cell? ⟨w.heap.size + 1, 5, none⟩ = some (.int .i64 0) := by go_simp
 have z6 : w2.cell? ⟨w.heap.size + 1, 6, none⟩ = some (.int .i64 0) := by go_simp
 have zf : ∀ o, w2.frozen? ⟨w.heap.size + 1, o, none⟩ = false := fun o => by go_simp
 go_wp2
 exact bodyPost_ret (v := .tuple #[.agg #[.int .i64 0, .int .i64 0, .int .i64 0, .int .i64 0, .int .i64 0, .int .i64 0, .int .i64 0], .bool false]) (by simp [results, Tryz.results95, go_sem, z0, z1, z2, z3, z4, z5, z6, zf]) rfl ⟨rfl, by exact belowBy⟩

set_option maxRecDepth 100000 in
set_option maxHeartbeats 1000000 in
theorem llast_some (ns ws : List CmdS) (x : CmdS) (q : Nat) (v : Value) (base : Nat) (w : World) (h : LineV w base ns ws v) (g1 : ns.length ≤ 400) (g2 : ws.length ≤ 400) (hr : lineB ns ws = true) (hlen : (ns ++ ws).length = q + 1) (hx : (ns ++ ws)[q]? = some x) :
  Calls Tryz.prog 95 #[v] w fun e w' => OnePost w x true e w' := by
 have HL := Lib.hid h
 have HR := Lib.hid hr
 obtain ⟨a, b, rfl⟩ := h.form
 have hq : q ≤ 800 := by
  rw [List.length_append] at hlen
  omega
 have HLEN := Lib.hid hlen
 have HX := Lib.hid hx
 clear h hr hlen hx
 go_enter Tryz.func95, Tryz.ntmps95
 go_wp2_with fail
 refine (lall_at ns ws _ base _ (HL.out.below ?b1) g1 g2).mono ?_
 case b1 => exact belowBy
 rintro e w1 ⟨⟨v9, rfl, ho⟩, hb1⟩
 have hR9 := ReadC.of_own ho
 obtain ⟨A9, c9, rfl, r1, r2, r3, -⟩ := hR9
 obtain ⟨b9, off, y, rfl, hb9, hy, hcell⟩ := r3.cmd q (by rw [HLEN.out]; omega)
 obtain rfl : x = y := by rw [HX.out] at hy; exact Option.some.inj hy
 rw [HLEN.out] at r1 ⊢
 clear ho r3 hy
 obtain ⟨hb1c, hb1f⟩ := bcell hb1
 have hb1z := hb1.size
 have hb1c0 := fun o => hb1c (w.heap.size) o sideBy
 have hb1f0 := fun o => hb1f (w.heap.size) o sideBy
 have hb1l0 := below_lt (b := w.heap.size) hb1 sideBy
 have hb1c1 := fun o => hb1c (w.heap.size + 1) o sideBy
 have hb1f1 := fun o => hb1f (w.heap.size + 1) o sideBy
 have hb1l1 := below_lt (b := w.heap.size + 1) hb1 sideBy
 have hB1 : Below w.heap.size w w1 := by exact belowBy
 clear hb1
 go_wp2_with fail
 refine (lright_at ns ws _ base true _ (HL.out.below hB1) HR.out).mono ?_
 rintro e w2 ⟨rfl, hb2⟩
 have e0 := (hb2.cell (p := ⟨b9, off + q * 7 + 0, none⟩) hb9).trans (hcell 0 (by omega))
 have e1 := (hb2.cell (p := ⟨b9, off + q * 7 + 1, none⟩) hb9).trans (hcell 1 (by omega))
 have e2 := (hb2.cell (p := ⟨b9, off + q * 7 + 2, none⟩) hb9).trans (hcell 2 (by omega))
 have e3 := (hb2.cell (p := ⟨b9, off + q * 7 + 3, none⟩) hb9).trans (hcell 3 (by omega))
 have e4 := (hb2.cell (p := ⟨b9, off + q * 7 + 4, none⟩) hb9).trans (hcell 4 (by omega))
 have e5 := (hb2.cell (p := ⟨b9, off + q * 7 + 5, none⟩) hb9).trans (hcell 5 (by omega))
 have e6 := (hb2.cell (p := ⟨b9, off + q * 7 + 6, none⟩) hb9).trans (hcell 6 (by omega))
 obtain ⟨x0, x1, x2, x3, x4, x5, x6⟩ := x
 simp only [CmdS.cells, List.getElem?_cons_zero, List.getElem?_cons_succ, Nat.add_zero] at e0 e1 e2 e3 e4 e5 e6
 clear hcell
 obtain ⟨hb2c, hb2f⟩ := bcell hb2
 have hb2z := hb2.size
 have hb2c0 := fun o => hb2c (w.heap.size + 1) o sideBy
 have hb2f0 := fun o => hb2f (w.heap.size + 1) o sideBy
 have hb2l0 := below_lt (b := w.heap.size + 1) hb2 sideBy
 have hne : ((q : Int) + 1 == 0) = false := by simp; omega
 have hqq : IntKind.i64.wrap ((q : Int) + 1 - 1) = (q : Int) := by rw [show (q : Int) + 1 - 1 = q by omega]; exact IntWalk.i64_in _ (by omega)
 have hqw : IntKind.i64.wrap (q : Int) = (q : Int) := IntWalk.i64_in _ (by omega)
 have hq0 : (0 : Int) ≤ (q : Int) := by omega
 have hq1 : (q : Int) < (q : Int) + 1 := by omega
 have z0 : w2.cell? ⟨w.heap.size + 1, 0, none⟩ = some (.int .i64 0) := by go_simp
 have z1 : w2.cell? ⟨w.heap.size + 1, 1, none⟩ = some (.int .i64 0) := by go_simp
 have z2 : w2.cell? ⟨w.heap.size + 1, 2, none⟩ = some (.int .i64 0) := by go_simp
 have z3 : w2.cell? ⟨w.heap.size + 1, 3, none⟩ = some (.int .i64 0) := by go_simp
 have z4 : w2.cell? ⟨w.heap.size + 1, 4, none⟩ = some (.int .i64 0) := by go_simp
 have z5 : w2.cell? ⟨w.heap.size + 1, 5, none⟩ = some (.int .i64 0) := by go_simp
 have z6 : w2.cell? ⟨w.heap.size + 1, 6, none⟩ = some (.int .i64 0) := by go_simp
 have zf : ∀ o, w2.frozen? ⟨w.heap.size + 1, o, none⟩ = false := fun o => by go_simp
 go_wp2
 exact bodyPost_ret (v := .tuple #[.agg #[.int .i64 x0, .int .i64 x1, .int .i64 x2, .int .i64 x3, .int .i64 x4, .int .i64 x5, .int .i64 x6], .bool true]) (by simp [results, Tryz.results95, go_sem, z0, z1, z2, z3, z4, z5, z6, zf]) rfl ⟨rfl, by exact belowBy⟩

set_option maxRecDepth 100000 in
set_option maxHeartbeats 1000000 in
theorem lnext_no (ns ws : List CmdS) (v : Value) (base : Nat) (w : World) (h : LineV w base ns ws v) (hr : lineB ns ws = false) :
  Calls Tryz.prog 100 #[v] w fun e w' => OnePost w cmd0 false e w' := by
 have HL := Lib.hid h
 have HR := Lib.hid hr
 obtain ⟨a, b, rfl⟩ := h.form
 clear h hr
 go_enter Tryz.func100, Tryz.ntmps100
 go_wp2_with fail
 refine (lright_at ns ws _ base false _ (HL.out.below ?b1) HR.out).mono ?_
 case b1 => exact belowBy
 rintro e w2 ⟨rfl, hb2⟩
 obtain ⟨hb2c, hb2f⟩ := bcell hb2
 have hb2z := hb2.size
 have hb2c0 := fun o => hb2c (w.heap.size) o sideBy
 have hb2f0 := fun o => hb2f (w.heap.size) o sideBy
 have hb2l0 := below_lt (b := w.heap.size) hb2 sideBy
 have hb2c1 := fun o => hb2c (w.heap.size + 1) o sideBy
 have hb2f1 := fun o => hb2f (w.heap.size + 1) o sideBy
 have hb2l1 := below_lt (b := w.heap.size + 1) hb2 sideBy
 have z0 : w2.cell? ⟨w.heap.size + 1, 0, none⟩ = some (.int .i64 0) := by go_simp
 have z1 : w2.cell? ⟨w.heap.size + 1, 1, none⟩ = some (.int .i64 0) := by go_simp
 have z2 : w2.cell? ⟨w.heap.size + 1, 2, none⟩ = some (.int .i64 0) := by go_simp
 have z3 : w2.cell? ⟨w.heap.size + 1, 3, none⟩ = some (.int .i64 0) := by go_simp
 have z4 : w2.cell? ⟨w.heap.size + 1, 4, none⟩ = some (.int .i64 0) := by go_simp
 have z5 : w2.cell? ⟨w.heap.size + 1, 5, none⟩ = some (.int .i64 0) := by go_simp
 have z6 : w2.cell? ⟨w.heap.size + 1, 6, none⟩ = some (.int .i64 0) := by go_simp
 have zf : ∀ o, w2.frozen? ⟨w.heap.size + 1, o, none⟩ = false := fun o => by go_simp
 go_wp2
 exact bodyPost_ret (v := .tuple #[.agg #[.int .i64 0, .int .i64 0, .int .i64 0, .int .i64 0, .int .i64 0, .int .i64 0, .int .i64 0], .bool false]) (by simp [results, Tryz.results100, go_sem, z0, z1, z2, z3, z4, z5, z6, zf]) rfl ⟨rfl, by exact belowBy⟩

set_option maxRecDepth 100000 in
set_option maxHeartbeats 1000000 in
theorem lnext_nil (ns : List CmdS) (v : Value) (base : Nat) (w : World) (h : LineV w base ns [] v) (hr : lineB ns [] = true) :
  Calls Tryz.prog 100 #[v] w fun e w' => OnePost w cmd0 false e w' := by
 have HL := Lib.hid h
 have HR := Lib.hid hr
 obtain ⟨a, b, rfl, ⟨A, c, rfl, q1, q2, q3, -⟩, ⟨D, d, rfl, p1, p2, p3, -⟩⟩ := h
 simp only [List.length_nil] at HL p1 ⊢
 generalize ns.length = n at *
 clear hr q3 p3
 go_enter Tryz.func100, Tryz.ntmps100
 go_wp2_with fail
 refine (lright_at ns [] _ base true _ (HL.out.below ?b1) HR.out).mono ?_
 case b1 => exact belowBy
 rintro e w2 ⟨rfl, hb2⟩
 obtain ⟨hb2c, hb2f⟩ := bcell hb2
 have hb2z := hb2.size
 have hb2c0 := fun o => hb2c (w.heap.size) o sideBy
 have hb2f0 := fun o => hb2f (w.heap.size) o sideBy
 have hb2l0 := below_lt (b := w.heap.size) hb2 sideBy
 have hb2c1 := fun o => hb2c (w.heap.size + 1) o sideBy
 have hb2f1 := fun o => hb2f (w.heap.size + 1) o sideBy
 have hb2l1 := below_lt (b := w.heap.size + 1) hb2 sideBy
 have z0 : w2.cell? ⟨w.heap.size + 1, 0, none⟩ = some (.int .i64 0) := by go_simp
 have z1 : w2.cell? ⟨w.heap.size + 1, 1, none⟩ = some (.int .i64 0) := by go_simp
 have z2 : w2.cell? ⟨w.heap.size + 1, 2, none⟩ = some (.int .i64 0) := by go_simp
 have z3 : w2.cell? ⟨w.heap.size + 1, 3, none⟩ = some (.int .i64 0) := by go_simp
 have z4 : w2.cell? ⟨w.heap.size + 1, 4, none⟩ = some (.int .i64 0) := by go_simp
 have z5 : w2.cell? ⟨w.heap.size + 1, 5, none⟩ = some (.int .i64 0) := by go_simp
 have z6 : w2.cell? ⟨w.heap.size + 1, 6, none⟩ = some (.int .i64 0) := by go_simp
 have zf : ∀ o, w2.frozen? ⟨w.heap.size + 1, o, none⟩ = false := fun o => by go_simp
 go_wp2
 exact bodyPost_ret (v := .tuple #[.agg #[.int .i64 0, .int .i64 0, .int .i64 0, .int .i64 0, .int .i64 0, .int .i64 0, .int .i64 0], .bool false]) (by simp [results, Tryz.results100, go_sem, z0, z1, z2, z3, z4, z5, z6, zf]) rfl ⟨rfl, by exact belowBy⟩

set_option maxRecDepth 100000 in
set_option maxHeartbeats 1000000 in
theorem lnext_some (ns ws : List CmdS) (x : CmdS) (v : Value) (base : Nat) (w : World) (h : LineV w base ns ws v) (hr : lineB ns ws = true) (hx : ws[0]? = some x) :
  Calls Tryz.prog 100 #[v] w fun e w' => OnePost w x true e w' := by
 have HL := Lib.hid h
 have HR := Lib.hid hr
 have hlw : 0 < ws.length := (List.getElem?_eq_some_iff.1 hx).1
 obtain ⟨a, b, rfl, ⟨A, c, rfl, q1, q2, q3, -⟩, ⟨D, d, rfl, p1, p2, p3, -⟩⟩ := h
 obtain ⟨b9, off, y, rfl, hb9, hy, hcell⟩ := p3.cmd 0 hlw
 obtain rfl : x = y := by rw [hx] at hy; exact Option.some.inj hy
 generalize ns.length = n at *
 generalize ws.length = m at *
 clear hr q3 p3 hx hy
 simp only [Nat.zero_mul, Nat.add_zero] at hcell
 have hm0 : ((m : Int) == 0) = false := by simp; omega
 have hm1 : (0 : Int) < (m : Int) := by omega
 go_enter Tryz.func100, Tryz.ntmps100
 go_wp2_with fail
 refine (lright_at ns ws _ base true _ (HL.out.below ?b1) HR.out).mono ?_
 case b1 => exact belowBy
 rintro e w2 ⟨rfl, hb2⟩
 have hB2 : Below w.heap.size w w2 := by exact belowBy
 have e0 := (hB2.cell (p := ⟨b9, off + 0, none⟩) hb9).trans (hcell 0 (by omega))
 have e1 := (hB2.cell (p := ⟨b9, off + 1, none⟩) hb9).trans (hcell 1 (by omega))
 have e2 := (hB2.cell (p := ⟨b9, off + 2, none⟩) hb9).trans (hcell 2 (by omega))
 have e3 := (hB2.cell (p := ⟨b9, off + 3, none⟩) hb9).trans (hcell 3 (by omega))
 have e4 := (hB2.cell (p := ⟨b9, off + 4, none⟩) hb9).trans (hcell 4 (by omega))
 have e5 := (hB2.cell (p := ⟨b9, off + 5, none⟩) hb9).trans (hcell 5 (by omega))
 have e6 := (hB2.cell (p := ⟨b9, off + 6, none⟩) hb9).trans (hcell 6 (by omega))
 obtain ⟨x0, x1, x2, x3, x4, x5, x6⟩ := x
 simp only [CmdS.cells, List.getElem?_cons_zero, List.getElem?_cons_succ, Nat.add_zero] at e0 e1 e2 e3 e4 e5 e6
 clear hcell
 obtain ⟨hb2c, hb2f⟩ := bcell hb2
 have hb2z := hb2.size
 have hb2c0 := fun o => hb2c (w.heap.size) o sideBy
 have hb2f0 := fun o => hb2f (w.heap.size) o sideBy
 have hb2l0 := below_lt (b := w.heap.size) hb2 sideBy
 have hb2c1 := fun o => hb2c (w.heap.size + 1) o sideBy
 have hb2f1 := fun o => hb2f (w.heap.size + 1) o sideBy
 have hb2l1 := below_lt (b := w.heap.size + 1) hb2 sideBy
 have z0 : w2.cell? ⟨w.heap.size + 1, 0, none⟩ = some (.int .i64 0) := by go_simp
 have z1 : w2.cell? ⟨w.heap.size + 1, 1, none⟩ = some (.int .i64 0) := by go_simp
 have z2 : w2.cell? ⟨w.heap.size + 1, 2, none⟩ = some (.int .i64 0) := by go_simp
 have z3 : w2.cell? ⟨w.heap.size + 1, 3, none⟩ = some (.int .i64 0) := by go_simp
 have z4 : w2.cell? ⟨w.heap.size + 1, 4, none⟩ = some (.int .i64 0) := by go_simp
 have z5 : w2.cell? ⟨w.heap.size + 1, 5, none⟩ = some (.int .i64 0) := by go_simp
 have z6 : w2.cell? ⟨w.heap.size + 1, 6, none⟩ = some (.int .i64 0) := by go_simp
 have zf : ∀ o, w2.frozen? ⟨w.heap.size + 1, o, none⟩ = false := fun o => by go_simp
 go_wp2
 exact bodyPost_ret (v := .tuple #[.agg #[.int .i64 x0, .int .i64 x1, .int .i64 x2, .int .i64 x3, .int .i64 x4, .int .i64 x5, .int .i64 x6], .bool true]) (by simp [results, Tryz.results100, go_sem, z0, z1, z2, z3, z4, z5, z6, zf]) rfl ⟨rfl, by exact belowBy⟩




def isNil0 (v : Value) (_ : World) : Prop := ∃ B : Nat, v = .slice (some ⟨B, 0, none⟩) 0 0
theorem isNil0.below {v : Value} {w w' : World} (h : isNil0 v w) (_ : Below w.heap.size w w') : isNil0 v w' := h
def isCl (n : Nat) (xs : List Value) (v : Value) (w : World) : Prop := ∃ g k, v = .slice (some ⟨g, 0, none⟩) n k ∧ n ≤ k ∧ k ≤ 9223372036854775807 ∧ Lies w w.heap.size 7 (some ⟨g, 0, none⟩) n xs
theorem isCl.below {n : Nat} {xs : List Value} {v : Value} {w w' : World} (h : isCl n xs v w) (hb : Below w.heap.size w w') : isCl n xs v w' := by
 obtain ⟨g, k, e, h1, h2, h3⟩ := h
 exact ⟨g, k, e, h1, h2, h3.on hb⟩
def newN (n : Nat) (v : Value) : List Nat := if n = 0 then [] else newB v
theorem newN_pos {n : Nat} (hn : 0 < n) (a : Addr) (m k : Nat) : newN n (.slice (some a) m k) = [a.block] := by
 unfold newN
 rw [if_neg (by omega)]
 rfl
structure LV (w : World) (p : Nat) (ns ws : List CmdS) (A D : Option Addr) (n m c d : Nat) : Prop where
 lt : p < w.heap.size
 c0 : w.cell? ⟨p, 0, none⟩ = some (.slice A n c)
 c1 : w.cell? ⟨p, 1, none⟩ = some (.slice D m d)
 line : LineV w 0 ns ws (.agg #[.slice A n c, .slice D m d])
theorem LV.below {w w' : World} {p : Nat} {ns ws : List CmdS} {A D : Option Addr} {n m c d : Nat} (h : LV w p ns ws A D n m c d) (hb : Below w.heap.size w w') : LV w' p ns ws A D n m c d :=
 ⟨Nat.lt_of_lt_of_le h.lt hb.size, (hb.cell h.lt).trans h.c0, (hb.cell h.lt).trans h.c1, h.line.below hb⟩
structure CV (w : World) (p : Nat) (x : CmdS) : Prop where
 lt : p < w.heap.size
 c : ∀ j, j < 7 → w.cell? ⟨p, j, none⟩ = x.cells[j]?
theorem CV.below {w w' : World} {p : Nat} {x : CmdS} (h : CV w p x) (hb : Below w.heap.size w w') : CV w' p x :=
 ⟨Nat.lt_of_lt_of_le h.lt hb.size, fun j hj => (hb.cell (p := ⟨p, j, none⟩) h.lt).trans (h.c j hj)⟩

theorem Lies.apart {w : World} {B g n k p : Nat} {xs : List Value} (h : Lies w B 7 (some ⟨g, 0, none⟩) n xs) (hp : ¬ p ∈ newN n (.slice (some ⟨g, 0, none⟩) n k)) (o : Nat) (u : Value) : Lies (w.setCell ⟨p, o, none⟩ u) B 7 (some ⟨g, 0, none⟩) n xs := by
 refine ⟨h.1, fun hn => ?_⟩
 rw [newN_pos hn, List.mem_singleton] at hp
 obtain ⟨b, off, e, hb, hc⟩ := h.2 hn
 injection e with e
 injection e with e1 e2
 subst e1 e2
 exact ⟨_, _, rfl, hb, fun j u' hu => by
  rw [World.cell?_setCell_other w ⟨p, o, none⟩ ⟨_, _, none⟩ u (fun he => by injection he with h1 h2; exact hp h1)]
  exact hc j u' hu⟩

structure EndR where
 ns : List CmdS
 ws : List CmdS
 id : Int
def endR (ns ws : List CmdS) : EndR := if lineB ns ws = true then (match ns with | [] => ⟨[], [], 0⟩ | y :: _ => ⟨ws.take 1, ws.drop 1, y.id⟩) else ⟨[], [], 0⟩
theorem line_cases {ns ws : List CmdS} (h : lineB ns ws = true) : (ns = [] ∧ ws = []) ∨ ∃ y, ns = [y] := by
 have h1 := lineB_yes h
 match ns, h1.1, h1.2.2.1 with
 | [], _, h3 => exact Or.inl ⟨rfl, List.eq_nil_of_length_eq_zero (h3 rfl)⟩
 | [x], _, _ => exact Or.inr ⟨x, rfl⟩
 | _ :: _ :: _, h2, _ => simp at h2
theorem lend_at (ns ws : List CmdS) (v : Value) (base : Nat) (w : World) (h : LineV w base ns ws v) :
  Calls Tryz.prog 58 #[v] w fun e w' => EndPost w (endR ns ws).ns (endR ns ws).ws (endR ns ws).id e w' := by
 unfold endR
 cases hq : lineB ns ws
 ·exact lend_noline ns ws v base w h hq
 ·rcases line_cases hq with ⟨rfl, rfl⟩ | ⟨y, rfl⟩
  ·exact lend_none [] v base w h hq
  ·exact lend_some y ws v base w h hq
def clearR (ns ws : List CmdS) : List CmdS := if lineB ns ws = true then ns ++ ws else []
theorem lclear_at (ns ws : List CmdS) (v : Value) (base : Nat) (w : World) (h : LineV w base ns ws v) : Calls Tryz.prog 70 #[v] w fun e w' => ClearPost w (clearR ns ws) e w' := by
 unfold clearR
 cases hq : lineB ns ws
 ·exact lclear_noline ns ws v base w h hq
 ·exact lclear_yes ns ws v base w h hq
structure OneR where
 x : CmdS
 ok : Bool
def lastR (ns ws : List CmdS) : OneR := if lineB ns ws = true then (match ns ++ ws with | [] => ⟨cmd0, false⟩ | y :: l => ⟨(y :: l)[l.length]'(by simp), true⟩) else ⟨cmd0, false⟩
theorem llast_at (ns ws : List CmdS) (v : Value) (base : Nat) (w : World) (h : LineV w base ns ws v) (g1 : ns.length ≤ 400) (g2 : ws.length ≤ 400) : Calls Tryz.prog 95 #[v] w fun e w' => OnePost w (lastR ns ws).x (lastR ns ws).ok e w' := by
 unfold lastR
 cases hq : lineB ns ws
 ·exact llast_no ns ws v base w h g1 g2 hq
 ·rcases line_cases hq with ⟨rfl, rfl⟩ | ⟨y, rfl⟩
  ·exact llast_nil v base w h
  ·exact llast_some [y] ws _ ws.length v base w h g1 g2 hq (by simp) (by simp)
def nextR (ns ws : List CmdS) : OneR := if lineB ns ws = true then (match ws with | [] => ⟨cmd0, false⟩ | y :: _ => ⟨y, true⟩) else ⟨cmd0, false⟩
theorem lnext_at (ns ws : List CmdS) (v : Value) (base : Nat) (w : World) (h : LineV w base ns ws v) : Calls Tryz.prog 100 #[v] w fun e w' => OnePost w (nextR ns ws).x (nextR ns ws).ok e w' := by
 unfold nextR
 cases hq : lineB ns ws
 ·exact lnext_no ns ws v base w h hq
 ·cases ws with
  | nil => exact lnext_nil ns v base w h hq
  | cons y l => exact lnext_some ns (y :: l) y v base w h hq rfl
theorem LineV.lies {w : World} {base : Nat} {ns ws : List CmdS} {A D : Option Addr} {n m c d : Nat} (h : LineV w base ns ws (.agg #[.slice A n c, .slice D m d])) (hn : n = ns.length) (hm : m = ws.length) : Lies w w.heap.size 7 A n (cmdsC ns) ∧ Lies w w.heap.size 7 D m (cmdsC ws) := by
 subst hn hm
 obtain ⟨a, b, e, ⟨A1, c1, e1, -, -, h1, -⟩, ⟨A2, c2, e2, -, -, h2, -⟩⟩ := h
 subst e1 e2
 simp only [Value.agg.injEq, Array.mk.injEq, List.cons.injEq, Value.slice.injEq, and_true, true_and] at e
 obtain ⟨⟨rfl, -⟩, rfl, -⟩ := e
 exact ⟨h1, h2⟩
section
variable {P : Program} {md : Region.Mode} {l : List Oper} {Q : Exit → Act → World → Prop} {S : World → Prop} {fuel : Nat} {listed : Array Bool} {a : Act} {w : World} {i : Nat} {o : Oper}
theorem takeH {v : Value} (hi : l[i]? = some o) (hs : Region.noSelect l.toArray = true) (hf : Region.free md l.toArray listed i = true) (hr : (Region.ready md l.toArray listed).contains i = true)
  (hQ : ∀ c a w, Q (.panic c) (a.put o.dst v) w → Q (.panic c) a w) (hy : YieldsIf P l.toArray S o v a) (hS : S w)
  (h : wpAnyH P md l.toArray Q S fuel (listed.setIfInBounds i true) (a.put o.dst v) w) : wpAnyH P md l.toArray Q S (fuel + 1) listed a w :=
 wpAnyH_take (by simpa using hi) hs hf hr hQ hy hS h
theorem takeT {v : Value} (hi : l[i]? = some o) (hy : ∀ w, S w → (execOp a.eval o).run P w = .ok (.value v) w) (h : wpAnyH P md l.toArray Q S fuel (listed.setIfInBounds i true) (a.put o.dst v) w)
  (hs : Region.noSelect l.toArray = true := by kernel_rfl) (hf : Region.free md l.toArray listed i = true := by kernel_rfl) (hr : (Region.ready md l.toArray listed).contains i = true := by kernel_rfl)
  (hQ : ∀ c a w, Q (.panic c) (a.put o.dst v) w → Q (.panic c) a w := by exact fun _ _ _ h => h) (hw : Region.wanted o (yielded l.toArray a.tmps) = true := by first | kernel_rfl | rfl) (hS : S w := by assumption) : wpAnyH P md l.toArray Q S (fuel + 1) listed a w :=
 takeH hi hs hf hr hQ (Or.inl ⟨hw, hy⟩) hS h
theorem takeU (hi : l[i]? = some o) (h : wpAnyH P md l.toArray Q S fuel (listed.setIfInBounds i true) (a.put o.dst undef) w)
  (hs : Region.noSelect l.toArray = true := by kernel_rfl) (hf : Region.free md l.toArray listed i = true := by kernel_rfl) (hr : (Region.ready md l.toArray listed).contains i = true := by kernel_rfl)
  (hQ : ∀ c a w, Q (.panic c) (a.put o.dst undef) w → Q (.panic c) a w := by exact fun _ _ _ h => h) (hw : Region.wanted o (yielded l.toArray a.tmps) = false := by first | kernel_rfl | rfl) (hS : S w := by assumption) : wpAnyH P md l.toArray Q S (fuel + 1) listed a w :=
 takeH hi hs hf hr hQ (Or.inr ⟨hw, rfl⟩) hS h
theorem oneH (hr : Region.ready md l.toArray listed = [i]) (ho : l[i]? = some o)
  (h : ∀ K' : Act → World → Prop, Shut (∀ a w, S w → (S w → wpAnyH P md l.toArray Q S fuel (listed.setIfInBounds i true) a w) → K' a w) → if Region.wanted o (yielded l.toArray a.tmps) = true then Oper.wp P o a w K' Q else K' (a.put o.dst undef) w) :
  wpAnyH P md l.toArray Q S (fuel + 1) listed a w :=
 wpAnyH_ready hr (by simp) (AllReadyH.cons (by simpa using ho) h AllReadyH.nil)
end
theorem Lies.at_cmd {w : World} {B b off n : Nat} {xs : List CmdS} (h : Lies w B 7 (some ⟨b, off, none⟩) n (cmdsC xs)) (k : Nat) (x : CmdS) (hx : xs[k]? = some x) : b < B ∧ ∀ j, j < 7 → w.cell? ⟨b, off + k * 7 + j, none⟩ = x.cells[j]? := by
 have hl := h.1
 rw [cmdsC_len] at hl
 have hk : k < xs.length := (List.getElem?_eq_some_iff.1 hx).1
 have hn : n = xs.length := by omega
 subst hn
 obtain ⟨b', off', y, e, hb, hy, hc⟩ := h.cmd k hk
 injection e with e
 injection e with e1 e2
 subst e1 e2
 rw [hx] at hy
 obtain rfl := Option.some.inj hy
 exact ⟨hb, hc⟩
theorem isReadC.lies {n base c : Nat} {xs : List Value} {L : Option Addr} {w : World} (h : isReadC n xs base (.slice L n c) w) : Lies w w.heap.size 7 L n xs ∧ n ≤ c ∧ c ≤ 9223372036854775807 := by
 obtain ⟨A, c', e, h1, h2, h3, -⟩ := h
 injection e with e1 e2 e3
 subst e1 e3
 exact ⟨h3, h1, h2⟩
theorem Lies.some {w : World} {B n : Nat} {A : Option Addr} {xs : List Value} (h : Lies w B 7 A n xs) (hn : 0 < n) : ∃ b off, A = some ⟨b, off, none⟩ := by
 obtain ⟨b, off, e, -⟩ := h.2 hn
 exact ⟨b, off, e⟩
theorem IdsV.form {w : World} {xs : List CmdS} {b : Nat} {v : Value} (h : IdsV w xs b v) : ∃ I c, v = .slice I xs.length c ∧ xs.length ≤ c ∧ c ≤ 9223372036854775807 ∧ Lies w w.heap.size 1 I xs.length (intsC (xs.map CmdS.id)) :=
 own_nums (xs := xs.map CmdS.id) (by simpa [IdsV, idsC, intsC, List.map_map, Function.comp_def] using h)
theorem told_one {y : CmdS} {ws : List CmdS} (h : lineB [y] ws = true) : endR [y] ws = ⟨ws.take 1, ws.drop 1, y.id⟩ ∧ clearR [y] ws = y :: ws ∧ (lastR [y] ws).ok = true ∧ (y :: ws)[ws.length]? = some (lastR [y] ws).x ∧ (nextR [y] ws).ok = decide (0 < ws.length) ∧ (0 < ws.length → (y :: ws)[1]? = some (nextR [y] ws).x) := by
 unfold endR clearR lastR nextR
 rw [if_pos h, if_pos h, if_pos h, if_pos h]
 refine ⟨rfl, rfl, rfl, ?_, ?_, ?_⟩
 ·simp
 ·cases ws <;> simp
 ·cases ws with
  | nil => intro h; simp at h
  | cons a l => intro _; simp

end Go.Proofs.YtogbhnmkinjpeaaGreat
