/- Merged: Layer 12: is it a line, by the reference. Layer 12, the reference: a command is added. Layer 12: the last command, the next one; is a line small. Layer 12: copies of rows in a drawn region; variables that hold lines and commands. -/
import Derived.Test.YthhfnageadckkaaGreatM13
set_option linter.unusedVariables false
set_option linter.unusedSimpArgs false
set_option maxHeartbeats 4000000
namespace Go.Proofs.YthhfnageadckkaaGreat
open Go.RowKit
attribute [local go_sem] ite_max ite_min vite_max vite_min ext_cell ext_frozen extS_cell extS_frozen

theorem lineB_bad {ns ws : List CmdS} {k : Nat} {x : CmdS} (h : (ns ++ ws)[k]? = some x) (hm : modeB x.mode = false) : lineB ns ws = false := by
 unfold lineB
 rw [Bool.and_eq_false_iff]
 right
 simp only [Bool.not_eq_false', List.any_eq_true]
 exact ⟨x, List.mem_of_getElem? h, by simp [hm]⟩
theorem lineB_all {ns ws : List CmdS} (h : (ns ++ ws).any (fun x : CmdS => !modeB x.mode) = false) : lineB ns ws = decide (ns.length ≤ 1 ∧ ws.length ≤ 4 ∧ (ns.length = 0 → ws.length = 0)) := by
 unfold lineB
 rw [h]
 simp

set_option maxRecDepth 100000 in
theorem rright_at (ns ws : List CmdS) (v : Value) (base : Nat) (r : Bool) (w : World) (h : LineV w base ns ws v) (hn : ns.length ≤ 400) (hm : ws.length ≤ 400) (hr : lineB ns ws = r) :
  Calls Tryz.prog 45 #[v] w fun e w' => e = .returned (.bool r) ∧ Below w.heap.size w w' := by
 obtain ⟨a, b, rfl, ⟨A, c, rfl, h1, h2, h3, _⟩, ⟨D, d, rfl, k1, k2, k3, _⟩⟩ := h
 obtain ⟨i0, hi0, hz0, hz1, hz2⟩ := info_parts cmd_info
 have HI := Lib.hid hi0
 have HZ0 := Lib.hid hz0
 have HZ1 := Lib.hid hz1
 have HZ2 := Lib.hid hz2
 have HX := Lib.hid h3
 have HY := Lib.hid k3
 have HBAD : Hid (∀ (k : Nat) (x : CmdS), (ns ++ ws)[k]? = some x → modeB x.mode = false → r = false) := Lib.hid (fun k x hx hb => by rw [← hr]; exact lineB_bad hx hb)
 have HALL : Hid ((ns ++ ws).any (fun x : CmdS => !modeB x.mode) = false → r = decide (ns.length ≤ 1 ∧ ws.length ≤ 4 ∧ (ns.length = 0 → ws.length = 0))) := Lib.hid (fun hb => by rw [← hr]; exact lineB_all hb)
 have HNM := Lib.hid (show (ns ++ ws).length = ns.length + ws.length from List.length_append)
 have HCC := Lib.hid (cmdsC_append ns ws)
 obtain ⟨n, hn'⟩ : ∃ n, ns.length = n := ⟨_, rfl⟩
 obtain ⟨m, hm'⟩ : ∃ m, ws.length = m := ⟨_, rfl⟩
 rw [hn'] at HX hn h1 HALL HNM ⊢
 rw [hm'] at HY hm k1 HALL HNM ⊢
 clear h3 k3 hn' hm' hi0 hz0 hz1 hz2 hr
 go_enter Tryz.func45, Tryz.ntmps45
 go_wp2_with fail
 go_region_held3 (fun w' => w'.cell? ⟨w.heap.size, 0, none⟩ = some (.slice A n c) ∧ w'.cell? ⟨w.heap.size, 1, none⟩ = some (.slice D m d)) (go_keep)
  (first
   | (have o0 := (own_none (w.alloc (.cells #[.slice A n c, .slice D m d] 31)) (w.heap.size + 1) (w.heap.size + 1) 63 7 (by simp) (Nat.le_refl _)).drew; refine step_app rfl (.tmp 5) (.tmp 7) 29 rfl (w.heap.size + 1) 63 i0 (.agg #[.int .i64 0, .int .i64 0, .int .i64 0, .int .i64 0, .int .i64 0, .int .i64 0, .int .i64 0]) 7 56 Tryz.underlying29 HI.out HZ0.out HZ1.out HZ2.out rfl (by decide) (.slice (some ⟨w.heap.size + 1, 0, none⟩) 0 0) 0 [] rfl o0 w.heap.size A n c (cmdsC ns) rfl (HX.out.below (by exact belowBy)) (cmdsC_one _) (by unfold maxLen; omega) (by omega) (by simp) ?_; intro A1 c1 w1 ho1 hg1; simp only [Nat.zero_add, List.nil_append] at ho1 ⊢; (have z1 : w.heap.size + 2 ≤ w1.heap.size := (by have := hg1.size; simp at this; omega)); (have k0 : w1.cell? ⟨w.heap.size, 0, none⟩ = some (.slice A n c) := (grown_cell (p := ⟨w.heap.size, 0, none⟩) o0 hg1 (Nat.lt_succ_self _) (by simp)).trans (by go_simp)); (have k1 : w1.cell? ⟨w.heap.size, 1, none⟩ = some (.slice D m d) := (grown_cell (p := ⟨w.heap.size, 1, none⟩) o0 hg1 (Nat.lt_succ_self _) (by simp)).trans (by go_simp)); (have HB1 : Below w.heap.size w w1 := below_grown (by exact belowBy) hg1 o0 (Nat.le_succ _) (by simp; omega)); clear o0 hg1)
   | (refine step_app rfl (.tmp 8) (.tmp 10) 29 rfl (w.heap.size + 1) 63 i0 (.agg #[.int .i64 0, .int .i64 0, .int .i64 0, .int .i64 0, .int .i64 0, .int .i64 0, .int .i64 0]) 7 56 Tryz.underlying29 HI.out HZ0.out HZ1.out HZ2.out rfl (by decide) (.slice A1 n c1) n (cmdsC ns) rfl ho1 w.heap.size D m d (cmdsC ws) rfl (HY.out.below HB1) (cmdsC_one _) (by unfold maxLen; omega) (by omega) (by omega) ?_; intro A2 c2 w2 ho2 hg2; (have HB2 : Below w.heap.size w w2 := below_grown HB1 hg2 ho1 (Nat.le_succ _) (by omega)); (have k2 : w2.cell? ⟨w.heap.size, 0, none⟩ = some (.slice A n c) := (grown_cell (p := ⟨w.heap.size, 0, none⟩) ho1 hg2 (Nat.lt_succ_self _) (by omega)).trans k0); (have k3 : w2.cell? ⟨w.heap.size, 1, none⟩ = some (.slice D m d) := (grown_cell (p := ⟨w.heap.size, 1, none⟩) ho1 hg2 (Nat.lt_succ_self _) (by omega)).trans k1)))
 have HR2 : Hid (ReadC w2 (ns ++ ws).length (cmdsC (ns ++ ws)) 0 (.slice A2 (n + m) c2)) := Lib.hid (by
  rw [HCC.out, HNM.out]
  exact (ReadC.of_own ho2).base0 (Nat.zero_le _))
 have hz2 : w.heap.size < w2.heap.size := by
  have := hg2.size
  omega
 clear ho1 ho2 hg2 HX HY k0 k1 HB1
 go_wp2_with fail
 go_loopw [13] (fun u wr => ∃ k : Nat, k ≤ n + m ∧ u = .int .i64 k ∧ Hid (((ns ++ ws).take k).any (fun x : CmdS => !modeB x.mode) = false) ∧ Below w2.heap.size w2 wr) (fun u _ => n + m - (intOf u).toNat)
 case atStart => exact ⟨0, by omega, rfl, Lib.hid (by simp), Below.refl _ _⟩
 case round =>
  obtain ⟨k, hk, rfl, HK, hbr⟩ := hrel
  by_cases hlt : k < n + m
  ·obtain ⟨A', c', e, q1, q2, q3, -⟩ := HR2.out
   injection e with e1 e2 e3
   subst e1 e3
   clear e2
   obtain ⟨b, off, x, e, hb, hxk, hcell⟩ := q3.cmd k (by rw [HNM.out]; exact hlt)
   subst e
   have hsucc := any_take (fun x : CmdS => !modeB x.mode) (ns ++ ws) k x hxk
   rw [HK.out, Bool.false_or] at hsucc
   have g0 := (hbr.cell (p := ⟨b, off + k * 7 + 0, none⟩) hb).trans (hcell 0 (by omega))
   have g1 := (hbr.cell (p := ⟨b, off + k * 7 + 1, none⟩) hb).trans (hcell 1 (by omega))
   have g2 := (hbr.cell (p := ⟨b, off + k * 7 + 2, none⟩) hb).trans (hcell 2 (by omega))
   have g3 := (hbr.cell (p := ⟨b, off + k * 7 + 3, none⟩) hb).trans (hcell 3 (by omega))
   have g4 := (hbr.cell (p := ⟨b, off + k * 7 + 4, none⟩) hb).trans (hcell 4 (by omega))
   have g5 := (hbr.cell (p := ⟨b, off + k * 7 + 5, none⟩) hb).trans (hcell 5 (by omega))
   have g6 := (hbr.cell (p := ⟨b, off + k * 7 + 6, none⟩) hb).trans (hcell 6 (by omega))
   have hbad := HBAD.out k x hxk
   obtain ⟨x0, x1, x2, x3, x4, x5, x6⟩ := x
   simp only [CmdS.cells, List.getElem?_cons_zero, List.getElem?_cons_succ, Nat.add_zero] at g0 g1 g2 g3 g4 g5 g6
   simp only at hsucc hbad
   have hk0 : (0 : Int) ≤ (k : Int) := by omega
   have hkn : (k : Int) < (n : Int) + (m : Int) := by omega
   have HS := Lib.hid hsucc
   have HBD := Lib.hid hbad
   have hz2' := Nat.le_of_lt hz2
   clear hcell hxk hsucc hbad HBAD HALL q1 q3
   cases hmd : modeB x4
   ·rw [hmd] at HBD
    obtain rfl := HBD.out rfl
    clear HBD HS
    rcases modeB_no hmd with hx | ⟨hx, hx2⟩
    ·clear hmd
     go_wp2
     go_ret
     exact ⟨rfl, HB2.trans (Below.mono (by exact belowBy) hz2')⟩
    ·clear hmd
     go_wp2
     go_ret
     exact ⟨rfl, HB2.trans (Below.mono (by exact belowBy) hz2')⟩
   ·rw [hmd] at HS
    have hx : 0 ≤ x4 ∧ x4 ≤ 5 := by
     unfold modeB at hmd
     simpa using hmd
    obtain ⟨hx1, hx2⟩ := hx
    clear hmd HBD
    go_wp2
    go_roundw
    case rel => exact ⟨k + 1, by omega, by go_num, HS, by exact belowBy⟩
    case measure => simp [intOf]; omega
  ·obtain rfl : k = n + m := by omega
   have hr := HALL.out (by have := HK.out; rwa [List.take_of_length_le (by rw [HNM.out]; exact Nat.le_refl _)] at this)
   have j0 := (hbr.cell (p := ⟨w.heap.size, 0, none⟩) hz2).trans k2
   have j1 := (hbr.cell (p := ⟨w.heap.size, 1, none⟩) hz2).trans k3
   have HEND : Hid (Below w.heap.size w wr) := Lib.hid (HB2.trans (hbr.mono (Nat.le_of_lt hz2)))
   clear HR2 HBAD HALL HK
   have hcase : 1 < n ∨ (n ≤ 1 ∧ 4 < m) ∨ (n = 0 ∧ 0 < m ∧ m ≤ 4) ∨ (n = 1 ∧ m ≤ 4) ∨ (n = 0 ∧ m = 0) := by omega
   rcases hcase with hc | ⟨hc, hc2⟩ | ⟨rfl, hc, hc2⟩ | ⟨rfl, hc⟩ | ⟨rfl, rfl⟩
   ·obtain rfl : r = false := by rw [hr]; exact decide_eq_false (by omega)
    have i1 : ¬ n ≤ 1 := by omega
    clear hr
    go_wp2
    go_ret
    exact ⟨rfl, HEND.out⟩
   ·obtain rfl : r = false := by rw [hr]; exact decide_eq_false (by omega)
    have i2 : ¬ m ≤ 4 := by omega
    clear hr
    go_wp2
    go_ret
    exact ⟨rfl, HEND.out⟩
   ·obtain rfl : r = false := by rw [hr]; exact decide_eq_false (by omega)
    have i3 : ((m : Int) == 0) = false := by simp; omega
    clear hr
    go_wp2
    go_ret
    exact ⟨rfl, HEND.out⟩
   ·obtain rfl : r = true := by rw [hr]; exact decide_eq_true (by omega)
    clear hr
    go_wp2
    go_ret
    exact ⟨rfl, HEND.out⟩
   ·obtain rfl : r = true := by rw [hr]; exact decide_eq_true (by omega)
    clear hr
    go_wp2
    go_ret
    exact ⟨rfl, HEND.out⟩
















def cmd0 : CmdS := ⟨0, 0, 0, 0, 0, 0, 0⟩
def OnePost (w : World) (x : CmdS) (ok : Bool) (e : Ending) (w' : World) : Prop := e = .returned (.tuple #[.agg #[.int .i64 x.id, .int .i64 x.kind, .int .i64 x.target, .int .i64 x.speed, .int .i64 x.mode, .int .i64 x.num, .int .i64 x.den], .bool ok]) ∧ Below w.heap.size w w'

set_option maxRecDepth 100000 in
theorem llast_no (ns ws : List CmdS) (v : Value) (base : Nat) (w : World) (h : LineV w base ns ws v) (g1 : ns.length ≤ 400) (g2 : ws.length ≤ 400) (hr : lineB ns ws = false) :
  Calls Tryz.prog 109 #[v] w fun e w' => OnePost w cmd0 false e w' := by
 have HL := Lib.hid h
 have HR := Lib.hid hr
 obtain ⟨a, b, rfl⟩ := h.form
 clear h hr
 go_enter Tryz.func109, Tryz.ntmps109
 go_wp2_with fail
 refine (lall_at ns ws _ base _ (HL.out.below ?b1) g1 g2).mono ?_
 case b1 => exact belowBy
 rintro e w1 ⟨⟨v9, rfl, ho⟩, hb1⟩
 obtain ⟨A9, c9, rfl, -⟩ := own_form ho
 clear ho
 generalize (ns ++ ws).length = N at *
 obtain ⟨hb1c, hb1f⟩ := bcell hb1
 have hb1z := hb1.size
 have hb1c0 := fun o => hb1c (w.heap.size) o sideBy
 have hb1f0 := fun o => hb1f (w.heap.size) o sideBy
 have hb1l0 := below_lt (b := w.heap.size) hb1 sideBy
 have hb1c1 := fun o => hb1c (w.heap.size + 1) o sideBy
 have hb1f1 := fun o => hb1f (w.heap.size + 1) o sideBy
 have hb1l1 := below_lt (b := w.heap.size + 1) hb1 sideBy
 have hB1 : Below w.heap.size w w1 := by exact belowBy
 clear hb1
 go_wp2_with fail
 refine (lright_at ns ws _ base false _ (HL.out.below hB1) HR.out).mono ?_
 rintro e w2 ⟨rfl, hb2⟩
 obtain ⟨hb2c, hb2f⟩ := bcell hb2
 have hb2z := hb2.size
 have hb2c0 := fun o => hb2c (w.heap.size + 1) o sideBy
 have hb2f0 := fun o => hb2f (w.heap.size + 1) o sideBy
 have hb2l0 := below_lt (b := w.heap.size + 1) hb2 sideBy
 have z0 : w2.cell? ⟨w.heap.size + 1, 0, none⟩ = some (.int .i64 0) := by go_simp
 have z1 : w2.cell? ⟨w.heap.size + 1, 1, none⟩ = some (.int .i64 0) := by go_simp
 have z2 : w2.cell? ⟨w.heap.size + 1, 2, none⟩ = some (.int .i64 0) := by go_simp
 have z3 : w2.cell? ⟨w.heap.size + 1, 3, none⟩ = some (.int .i64 0) := by go_simp
 have z4 : w2.cell? ⟨w.heap.size + 1, 4, none⟩ = some (.int .i64 0) := by go_simp
 have z5 : w2.cell? ⟨w.heap.size + 1, 5, none⟩ = some (.int .i64 0) := by go_simp
 have z6 : w2.cell? ⟨w.heap.size + 1, 6, none⟩ = some (.int .i64 0) := by go_simp
 have zf : ∀ o, w2.frozen? ⟨w.heap.size + 1, o, none⟩ = false := fun o => by go_simp
 go_wp2
 exact bodyPost_ret (v := .tuple #[.agg #[.int .i64 0, .int .i64 0, .int .i64 0, .int .i64 0, .int .i64 0, .int .i64 0, .int .i64 0], .bool false]) (by simp [results, Tryz.results109, go_sem, z0, z1, z2, z3, z4, z5, z6, zf]) rfl ⟨rfl, by exact belowBy⟩

set_option maxRecDepth 100000 in
theorem llast_nil (v : Value) (base : Nat) (w : World) (h : LineV w base [] [] v) :
  Calls Tryz.prog 109 #[v] w fun e w' => OnePost w cmd0 false e w' := by
 have HL := Lib.hid h
 obtain ⟨a, b, rfl⟩ := h.form
 clear h
 go_enter Tryz.func109, Tryz.ntmps109
 go_wp2_with fail
 refine (lall_at [] [] _ base _ (HL.out.below ?b1) (by simp) (by simp)).mono ?_
 case b1 => exact belowBy
 rintro e w1 ⟨⟨v9, rfl, ho⟩, hb1⟩
 obtain ⟨A9, c9, rfl, -⟩ := own_form ho
 clear ho
 simp only [List.append_nil, List.length_nil]
 obtain ⟨hb1c, hb1f⟩ := bcell hb1
 have hb1z := hb1.size
 have hb1c0 := fun o => hb1c (w.heap.size) o sideBy
 have hb1f0 := fun o => hb1f (w.heap.size) o sideBy
 have hb1l0 := below_lt (b := w.heap.size) hb1 sideBy
 have hb1c1 := fun o => hb1c (w.heap.size + 1) o sideBy
 have hb1f1 := fun o => hb1f (w.heap.size + 1) o sideBy
 have hb1l1 := below_lt (b := w.heap.size + 1) hb1 sideBy
 have hB1 : Below w.heap.size w w1 := by exact belowBy
 clear hb1
 go_wp2_with fail
 refine (lright_at [] [] _ base true _ (HL.out.below hB1) rfl).mono ?_
 rintro e w2 ⟨rfl, hb2⟩
 obtain ⟨hb2c, hb2f⟩ := bcell hb2
 have hb2z := hb2.size
 have hb2c0 := fun o => hb2c (w.heap.size + 1) o sideBy
 have hb2f0 := fun o => hb2f (w.heap.size + 1) o sideBy
 have hb2l0 := below_lt (b := w.heap.size + 1) hb2 sideBy
 have z0 : w2.cell? ⟨w.heap.size + 1, 0, none⟩ = some (.int .i64 0) := by go_simp
 have z1 : w2.cell? ⟨w.heap.size + 1, 1, none⟩ = some (.int .i64 0) := by go_simp
 have z2 : w2.cell? ⟨w.heap.size + 1, 2, none⟩ = some (.int .i64 0) := by go_simp
 have z3 : w2.cell? ⟨w.heap.size + 1, 3, none⟩ = some (.int .i64 0) := by go_simp
 have z4 : w2.cell? ⟨w.heap.size + 1, 4, none⟩ = some (.int .i64 0) := by go_simp
 have z5 : w2.cell? ⟨w.heap.size + 1, 5, none⟩ = some (.int .i64 0) := by go_simp
 have z6 : w2.cell? ⟨w.heap.size + 1, 6, none⟩ = some (.int .i64 0) := by go_simp
 have zf : ∀ o, w2.frozen? ⟨w.heap.size + 1, o, none⟩ = false := fun o => by go_simp
 go_wp2
 exact bodyPost_ret (v := .tuple #[.agg #[.int .i64 0, .int .i64 0, .int .i64 0, .int .i64 0, .int .i64 0, .int .i64 0, .int .i64 0], .bool false]) (by simp [results, Tryz.results109, go_sem, z0, z1, z2, z3, z4, z5, z6, zf]) rfl ⟨rfl, by exact belowBy⟩

set_option maxRecDepth 100000 in
theorem llast_some (ns ws : List CmdS) (x : CmdS) (q : Nat) (v : Value) (base : Nat) (w : World) (h : LineV w base ns ws v) (g1 : ns.length ≤ 400) (g2 : ws.length ≤ 400) (hr : lineB ns ws = true) (hlen : (ns ++ ws).length = q + 1) (hx : (ns ++ ws)[q]? = some x) :
  Calls Tryz.prog 109 #[v] w fun e w' => OnePost w x true e w' := by
 have HL := Lib.hid h
 have HR := Lib.hid hr
 obtain ⟨a, b, rfl⟩ := h.form
 have hq : q ≤ 800 := by
  rw [List.length_append] at hlen
  omega
 have HLEN := Lib.hid hlen
 have HX := Lib.hid hx
 clear h hr hlen hx
 go_enter Tryz.func109, Tryz.ntmps109
 go_wp2_with fail
 refine (lall_at ns ws _ base _ (HL.out.below ?b1) g1 g2).mono ?_
 case b1 => exact belowBy
 rintro e w1 ⟨⟨v9, rfl, ho⟩, hb1⟩
 have hR9 := ReadC.of_own ho
 obtain ⟨A9, c9, rfl, r1, r2, r3, -⟩ := hR9
 obtain ⟨b9, off, y, rfl, hb9, hy, hcell⟩ := r3.cmd q (by rw [HLEN.out]; omega)
 obtain rfl : x = y := by rw [HX.out] at hy; exact Option.some.inj hy
 rw [HLEN.out] at r1 ⊢
 clear ho r3 hy
 obtain ⟨hb1c, hb1f⟩ := bcell hb1
 have hb1z := hb1.size
 have hb1c0 := fun o => hb1c (w.heap.size) o sideBy
 have hb1f0 := fun o => hb1f (w.heap.size) o sideBy
 have hb1l0 := below_lt (b := w.heap.size) hb1 sideBy
 have hb1c1 := fun o => hb1c (w.heap.size + 1) o sideBy
 have hb1f1 := fun o => hb1f (w.heap.size + 1) o sideBy
 have hb1l1 := below_lt (b := w.heap.size + 1) hb1 sideBy
 have hB1 : Below w.heap.size w w1 := by exact belowBy
 clear hb1
 go_wp2_with fail
 refine (lright_at ns ws _ base true _ (HL.out.below hB1) HR.out).mono ?_
 rintro e w2 ⟨rfl, hb2⟩
 have e0 := (hb2.cell (p := ⟨b9, off + q * 7 + 0, none⟩) hb9).trans (hcell 0 (by omega))
 have e1 := (hb2.cell (p := ⟨b9, off + q * 7 + 1, none⟩) hb9).trans (hcell 1 (by omega))
 have e2 := (hb2.cell (p := ⟨b9, off + q * 7 + 2, none⟩) hb9).trans (hcell 2 (by omega))
 have e3 := (hb2.cell (p := ⟨b9, off + q * 7 + 3, none⟩) hb9).trans (hcell 3 (by omega))
 have e4 := (hb2.cell (p := ⟨b9, off + q * 7 + 4, none⟩) hb9).trans (hcell 4 (by omega))
 have e5 := (hb2.cell (p := ⟨b9, off + q * 7 + 5, none⟩) hb9).trans (hcell 5 (by omega))
 have e6 := (hb2.cell (p := ⟨b9, off + q * 7 + 6, none⟩) hb9).trans (hcell 6 (by omega))
 obtain ⟨x0, x1, x2, x3, x4, x5, x6⟩ := x
 simp only [CmdS.cells, List.getElem?_cons_zero, List.getElem?_cons_succ, Nat.add_zero] at e0 e1 e2 e3 e4 e5 e6
 clear hcell
 obtain ⟨hb2c, hb2f⟩ := bcell hb2
 have hb2z := hb2.size
 have hb2c0 := fun o => hb2c (w.heap.size + 1) o sideBy
 have hb2f0 := fun o => hb2f (w.heap.size + 1) o sideBy
 have hb2l0 := below_lt (b := w.heap.size + 1) hb2 sideBy
 have hne : ((q : Int) + 1 == 0) = false := by simp; omega
 have hqq : IntKind.i64.wrap ((q : Int) + 1 - 1) = (q : Int) := by rw [show (q : Int) + 1 - 1 = q by omega]; exact IntWalk.i64_in _ (by omega)
 have hqw : IntKind.i64.wrap (q : Int) = (q : Int) := IntWalk.i64_in _ (by omega)
 have hq0 : (0 : Int) ≤ (q : Int) := by omega
 have hq1 : (q : Int) < (q : Int) + 1 := by omega
 have z0 : w2.cell? ⟨w.heap.size + 1, 0, none⟩ = some (.int .i64 0) := by go_simp
 have z1 : w2.cell? ⟨w.heap.size + 1, 1, none⟩ = some (.int .i64 0) := by go_simp
 have z2 : w2.cell? ⟨w.heap.size + 1, 2, none⟩ = some (.int .i64 0) := by go_simp
 have z3 : w2.cell? ⟨w.heap.size + 1, 3, none⟩ = some (.int .i64 0) := by go_simp
 have z4 : w2.cell? ⟨w.heap.size + 1, 4, none⟩ = some (.int .i64 0) := by go_simp
 have z5 : w2.cell? ⟨w.heap.size + 1, 5, none⟩ = some (.int .i64 0) := by go_simp
 have z6 : w2.cell? ⟨w.heap.size + 1, 6, none⟩ = some (.int .i64 0) := by go_simp
 have zf : ∀ o, w2.frozen? ⟨w.heap.size + 1, o, none⟩ = false := fun o => by go_simp
 go_wp2
 exact bodyPost_ret (v := .tuple #[.agg #[.int .i64 x0, .int .i64 x1, .int .i64 x2, .int .i64 x3, .int .i64 x4, .int .i64 x5, .int .i64 x6], .bool true]) (by simp [results, Tryz.results109, go_sem, z0, z1, z2, z3, z4, z5, z6, zf]) rfl ⟨rfl, by exact belowBy⟩

set_option maxRecDepth 100000 in
theorem lnext_no (ns ws : List CmdS) (v : Value) (base : Nat) (w : World) (h : LineV w base ns ws v) (hr : lineB ns ws = false) :
  Calls Tryz.prog 114 #[v] w fun e w' => OnePost w cmd0 false e w' := by
 have HL := Lib.hid h
 have HR := Lib.hid hr
 obtain ⟨a, b, rfl⟩ := h.form
 clear h hr
 go_enter Tryz.func114, Tryz.ntmps114
 go_wp2_with fail
 refine (lright_at ns ws _ base false _ (HL.out.below ?b1) HR.out).mono ?_
 case b1 => exact belowBy
 rintro e w2 ⟨rfl, hb2⟩
 obtain ⟨hb2c, hb2f⟩ := bcell hb2
 have hb2z := hb2.size
 have hb2c0 := fun o => hb2c (w.heap.size) o sideBy
 have hb2f0 := fun o => hb2f (w.heap.size) o sideBy
 have hb2l0 := below_lt (b := w.heap.size) hb2 sideBy
 have hb2c1 := fun o => hb2c (w.heap.size + 1) o sideBy
 have hb2f1 := fun o => hb2f (w.heap.size + 1) o sideBy
 have hb2l1 := below_lt (b := w.heap.size + 1) hb2 sideBy
 have z0 : w2.cell? ⟨w.heap.size + 1, 0, none⟩ = some (.int .i64 0) := by go_simp
 have z1 : w2.cell? ⟨w.heap.size + 1, 1, none⟩ = some (.int .i64 0) := by go_simp
 have z2 : w2.cell? ⟨w.heap.size + 1, 2, none⟩ = some (.int .i64 0) := by go_simp
 have z3 : w2.cell? ⟨w.heap.size + 1, 3, none⟩ = some (.int .i64 0) := by go_simp
 have z4 : w2.cell? ⟨w.heap.size + 1, 4, none⟩ = some (.int .i64 0) := by go_simp
 have z5 : w2.cell? ⟨w.heap.size + 1, 5, none⟩ = some (.int .i64 0) := by go_simp
 have z6 : w2.cell? ⟨w.heap.size + 1, 6, none⟩ = some (.int .i64 0) := by go_simp
 have zf : ∀ o, w2.frozen? ⟨w.heap.size + 1, o, none⟩ = false := fun o => by go_simp
 go_wp2
 exact bodyPost_ret (v := .tuple #[.agg #[.int .i64 0, .int .i64 0, .int .i64 0, .int .i64 0, .int .i64 0, .int .i64 0, .int .i64 0], .bool false]) (by simp [results, Tryz.results114, go_sem, z0, z1, z2, z3, z4, z5, z6, zf]) rfl ⟨rfl, by exact belowBy⟩

set_option maxRecDepth 100000 in
theorem lnext_nil (ns : List CmdS) (v : Value) (base : Nat) (w : World) (h : LineV w base ns [] v) (hr : lineB ns [] = true) :
  Calls Tryz.prog 114 #[v] w fun e w' => OnePost w cmd0 false e w' := by
 have HL := Lib.hid h
 have HR := Lib.hid hr
 obtain ⟨a, b, rfl, ⟨A, c, rfl, q1, q2, q3, -⟩, ⟨D, d, rfl, p1, p2, p3, -⟩⟩ := h
 simp only [List.length_nil] at HL p1 ⊢
 generalize ns.length = n at *
 clear hr q3 p3
 go_enter Tryz.func114, Tryz.ntmps114
 go_wp2_with fail
 refine (lright_at ns [] _ base true _ (HL.out.below ?b1) HR.out).mono ?_
 case b1 => exact belowBy
 rintro e w2 ⟨rfl, hb2⟩
 obtain ⟨hb2c, hb2f⟩ := bcell hb2
 have hb2z := hb2.size
 have hb2c0 := fun o => hb2c (w.heap.size) o sideBy
 have hb2f0 := fun o => hb2f (w.heap.size) o sideBy
 have hb2l0 := below_lt (b := w.heap.size) hb2 sideBy
 have hb2c1 := fun o => hb2c (w.heap.size + 1) o sideBy
 have hb2f1 := fun o => hb2f (w.heap.size + 1) o sideBy
 have hb2l1 := below_lt (b := w.heap.size + 1) hb2 sideBy
 have z0 : w2.cell? ⟨w.heap.size + 1, 0, none⟩ = some (.int .i64 0) := by go_simp
 have z1 : w2.cell? ⟨w.heap.size + 1, 1, none⟩ = some (.int .i64 0) := by go_simp
 have z2 : w2.cell? ⟨w.heap.size + 1, 2, none⟩ = some (.int .i64 0) := by go_simp
 have z3 : w2.cell? ⟨w.heap.size + 1, 3, none⟩ = some (.int .i64 0) := by go_simp
 have z4 : w2.cell? ⟨w.heap.size + 1, 4, none⟩ = some (.int .i64 0) := by go_simp
 have z5 : w2.cell? ⟨w.heap.size + 1, 5, none⟩ = some (.int .i64 0) := by go_simp
 have z6 : w2.cell? ⟨w.heap.size + 1, 6, none⟩ = some (.int .i64 0) := by go_simp
 have zf : ∀ o, w2.frozen? ⟨w.heap.size + 1, o, none⟩ = false := fun o => by go_simp
 go_wp2
 exact bodyPost_ret (v := .tuple #[.agg #[.int .i64 0, .int .i64 0, .int .i64 0, .int .i64 0, .int .i64 0, .int .i64 0, .int .i64 0], .bool false]) (by simp [results, Tryz.results114, go_sem, z0, z1, z2, z3, z4, z5, z6, zf]) rfl ⟨rfl, by exact belowBy⟩

set_option maxRecDepth 100000 in
theorem lnext_some (ns ws : List CmdS) (x : CmdS) (v : Value) (base : Nat) (w : World) (h : LineV w base ns ws v) (hr : lineB ns ws = true) (hx : ws[0]? = some x) :
  Calls Tryz.prog 114 #[v] w fun e w' => OnePost w x true e w' := by
 have HL := Lib.hid h
 have HR := Lib.hid hr
 have hlw : 0 < ws.length := (List.getElem?_eq_some_iff.1 hx).1
 obtain ⟨a, b, rfl, ⟨A, c, rfl, q1, q2, q3, -⟩, ⟨D, d, rfl, p1, p2, p3, -⟩⟩ := h
 obtain ⟨b9, off, y, rfl, hb9, hy, hcell⟩ := p3.cmd 0 hlw
 obtain rfl : x = y := by rw [hx] at hy; exact Option.some.inj hy
 generalize ns.length = n at *
 generalize ws.length = m at *
 clear hr q3 p3 hx hy
 simp only [Nat.zero_mul, Nat.add_zero] at hcell
 have hm0 : ((m : Int) == 0) = false := by simp; omega
 have hm1 : (0 : Int) < (m : Int) := by omega
 go_enter Tryz.func114, Tryz.ntmps114
 go_wp2_with fail
 refine (lright_at ns ws _ base true _ (HL.out.below ?b1) HR.out).mono ?_
 case b1 => exact belowBy
 rintro e w2 ⟨rfl, hb2⟩
 have hB2 : Below w.heap.size w w2 := by exact belowBy
 have e0 := (hB2.cell (p := ⟨b9, off + 0, none⟩) hb9).trans (hcell 0 (by omega))
 have e1 := (hB2.cell (p := ⟨b9, off + 1, none⟩) hb9).trans (hcell 1 (by omega))
 have e2 := (hB2.cell (p := ⟨b9, off + 2, none⟩) hb9).trans (hcell 2 (by omega))
 have e3 := (hB2.cell (p := ⟨b9, off + 3, none⟩) hb9).trans (hcell 3 (by omega))
 have e4 := (hB2.cell (p := ⟨b9, off + 4, none⟩) hb9).trans (hcell 4 (by omega))
 have e5 := (hB2.cell (p := ⟨b9, off + 5, none⟩) hb9).trans (hcell 5 (by omega))
 have e6 := (hB2.cell (p := ⟨b9, off + 6, none⟩) hb9).trans (hcell 6 (by omega))
 obtain ⟨x0, x1, x2, x3, x4, x5, x6⟩ := x
 simp only [CmdS.cells, List.getElem?_cons_zero, List.getElem?_cons_succ, Nat.add_zero] at e0 e1 e2 e3 e4 e5 e6
 clear hcell
 obtain ⟨hb2c, hb2f⟩ := bcell hb2
 have hb2z := hb2.size
 have hb2c0 := fun o => hb2c (w.heap.size) o sideBy
 have hb2f0 := fun o => hb2f (w.heap.size) o sideBy
 have hb2l0 := below_lt (b := w.heap.size) hb2 sideBy
 have hb2c1 := fun o => hb2c (w.heap.size + 1) o sideBy
 have hb2f1 := fun o => hb2f (w.heap.size + 1) o sideBy
 have hb2l1 := below_lt (b := w.heap.size + 1) hb2 sideBy
 have z0 : w2.cell? ⟨w.heap.size + 1, 0, none⟩ = some (.int .i64 0) := by go_simp
 have z1 : w2.cell? ⟨w.heap.size + 1, 1, none⟩ = some (.int .i64 0) := by go_simp
 have z2 : w2.cell? ⟨w.heap.size + 1, 2, none⟩ = some (.int .i64 0) := by go_simp
 have z3 : w2.cell? ⟨w.heap.size + 1, 3, none⟩ = some (.int .i64 0) := by go_simp
 have z4 : w2.cell? ⟨w.heap.size + 1, 4, none⟩ = some (.int .i64 0) := by go_simp
 have z5 : w2.cell? ⟨w.heap.size + 1, 5, none⟩ = some (.int .i64 0) := by go_simp
 have z6 : w2.cell? ⟨w.heap.size + 1, 6, none⟩ = some (.int .i64 0) := by go_simp
 have zf : ∀ o, w2.frozen? ⟨w.heap.size + 1, o, none⟩ = false := fun o => by go_simp
 go_wp2
 exact bodyPost_ret (v := .tuple #[.agg #[.int .i64 x0, .int .i64 x1, .int .i64 x2, .int .i64 x3, .int .i64 x4, .int .i64 x5, .int .i64 x6], .bool true]) (by simp [results, Tryz.results114, go_sem, z0, z1, z2, z3, z4, z5, z6, zf]) rfl ⟨rfl, by exact belowBy⟩




def isNil0 (v : Value) (_ : World) : Prop := ∃ B : Nat, v = .slice (some ⟨B, 0, none⟩) 0 0
theorem isNil0.below {v : Value} {w w' : World} (h : isNil0 v w) (_ : Below w.heap.size w w') : isNil0 v w' := h
def isCl (n : Nat) (xs : List Value) (v : Value) (w : World) : Prop := ∃ g k, v = .slice (some ⟨g, 0, none⟩) n k ∧ n ≤ k ∧ k ≤ 9223372036854775807 ∧ Lies w w.heap.size 7 (some ⟨g, 0, none⟩) n xs
theorem isCl.below {n : Nat} {xs : List Value} {v : Value} {w w' : World} (h : isCl n xs v w) (hb : Below w.heap.size w w') : isCl n xs v w' := by
 obtain ⟨g, k, e, h1, h2, h3⟩ := h
 exact ⟨g, k, e, h1, h2, h3.on hb⟩
def newN (n : Nat) (v : Value) : List Nat := if n = 0 then [] else newB v
theorem newN_pos {n : Nat} (hn : 0 < n) (a : Addr) (m k : Nat) : newN n (.slice (some a) m k) = [a.block] := by
 unfold newN
 rw [if_neg (by omega)]
 rfl
structure LV (w : World) (p : Nat) (ns ws : List CmdS) (A D : Option Addr) (n m c d : Nat) : Prop where
 lt : p < w.heap.size
 c0 : w.cell? ⟨p, 0, none⟩ = some (.slice A n c)
 c1 : w.cell? ⟨p, 1, none⟩ = some (.slice D m d)
 line : LineV w 0 ns ws (.agg #[.slice A n c, .slice D m d])
theorem LV.below {w w' : World} {p : Nat} {ns ws : List CmdS} {A D : Option Addr} {n m c d : Nat} (h : LV w p ns ws A D n m c d) (hb : Below w.heap.size w w') : LV w' p ns ws A D n m c d :=
 ⟨Nat.lt_of_lt_of_le h.lt hb.size, (hb.cell h.lt).trans h.c0, (hb.cell h.lt).trans h.c1, h.line.below hb⟩
structure CV (w : World) (p : Nat) (x : CmdS) : Prop where
 lt : p < w.heap.size
 c : ∀ j, j < 7 → w.cell? ⟨p, j, none⟩ = x.cells[j]?
theorem CV.below {w w' : World} {p : Nat} {x : CmdS} (h : CV w p x) (hb : Below w.heap.size w w') : CV w' p x :=
 ⟨Nat.lt_of_lt_of_le h.lt hb.size, fun j hj => (hb.cell (p := ⟨p, j, none⟩) h.lt).trans (h.c j hj)⟩
end Go.Proofs.YthhfnageadckkaaGreat
