/- Merged: Contracts of layer 12: a command is added. Contracts of layer 12: a command is added behind the others. -/
import Derived.Test.YthhfnageadckkaaGreatM11
import Derived.Deep.DeepCutAuto
set_option linter.unusedVariables false
set_option linter.unusedSimpArgs false
set_option maxHeartbeats 4000000
namespace Go.Proofs.YthhfnageadckkaaGreat
open Go.RowKit
attribute [local go_sem] ite_max ite_min vite_max vite_min ext_cell ext_frozen extS_cell extS_frozen

theorem lmade_at (xs : List CmdS) (v : Value) (base : Nat) (w : World) (h : ReadC w xs.length (cmdsC xs) base v) (hn : xs.length ≤ 400) :
  Calls Tryz.prog 92 #[v] w fun e w' => RetL w w' (xs.take 1) (xs.drop 1) e ∧ Below w.heap.size w w' := by
 cases xs with
 | nil => exact lmade_nil v base w h
 | cons x xs => exact lmade_cons x xs v base w h hn

def isOwnC (n : Nat) (xs : List Value) (base : Nat) (v : Value) (w : World) : Prop := ∃ u, v = u ∧ w.ownsRow base 63 7 u n xs
theorem isOwnC.below {n : Nat} {xs : List Value} {base : Nat} {v : Value} {w w' : World} (h : isOwnC n xs base v w) (hb : Below w.heap.size w w') : isOwnC n xs base v w' := by
 obtain ⟨u, e, o⟩ := h
 exact ⟨u, e, owns_below o hb⟩
theorem own_base {w : World} {b b' : Nat} {e : TypeId} {size : Nat} {v : Value} {n : Nat} {xs : List Value} (h : w.ownsRow b e size v n xs) (hb : b' ≤ b) : w.ownsRow b' e size v n xs := by
 obtain ⟨q1, q2⟩ := h
 refine ⟨q1, ?_⟩
 rcases q2 with q2 | ⟨g, cap, cur, e1, e2, e3⟩
 ·exact .inl q2
 ·exact .inr ⟨g, cap, cur, e1, Nat.le_trans hb e2, e3⟩
def isLineV (ns ws : List CmdS) (base : Nat) (v : Value) (w : World) : Prop := LineV w base ns ws v ∧ True
theorem isLineV.below {ns ws : List CmdS} {base : Nat} {v : Value} {w w' : World} (h : isLineV ns ws base v w) (hb : Below w.heap.size w w') : isLineV ns ws base v w' := ⟨h.1.below hb, trivial⟩
def IdsV (w : World) (xs : List CmdS) (base : Nat) (v : Value) : Prop := w.ownsRow base 3 1 v xs.length (idsC xs)
def isIdsV (xs : List CmdS) (base : Nat) (v : Value) (w : World) : Prop := ∃ u, v = u ∧ IdsV w xs base u
theorem isIdsV.below {xs : List CmdS} {base : Nat} {v : Value} {w w' : World} (h : isIdsV xs base v w) (hb : Below w.heap.size w w') : isIdsV xs base v w' := by
 obtain ⟨u, e, o⟩ := h
 exact ⟨u, e, owns_below o hb⟩
theorem IdsV.store {w : World} {xs : List CmdS} {base : Nat} {v : Value} (h : IdsV w xs base v) {p : Addr} (hp : p.block < base) (u : Value) : IdsV (w.setCell p u) xs base v := by
 obtain ⟨q1, q2⟩ := h
 refine ⟨q1, ?_⟩
 rcases q2 with q2 | ⟨g, cap, cur, e1, e2, e3, e4⟩
 ·exact .inl q2
 ·exact .inr ⟨g, cap, cur, e1, e2, (Below.heap_setCell w p u g (by omega)).trans e3, e4⟩
def AddPost (w : World) (ns ws ids : List CmdS) (E : Int) (e : Ending) (w' : World) : Prop := ∃ v i, e = .returned (.tuple #[v, i, .int .i64 E]) ∧ LineV w' w.heap.size ns ws v ∧ IdsV w' ids w.heap.size i ∧ Below w.heap.size w w'

theorem nil_read {w : World} {base : Nat} : ReadC w ([] : List CmdS).length (cmdsC []) base (.slice none 0 0) := ⟨none, 0, rfl, Nat.le_refl _, by omega, Lies.empty, fun b o h => absurd h (by simp)⟩
theorem nil_line {w : World} {base : Nat} : LineV w base [] [] (.agg #[.slice none 0 0, .slice none 0 0]) := ⟨_, _, rfl, nil_read, nil_read⟩
theorem nil_ids {w : World} {base : Nat} : IdsV w [] base (.slice none 0 0) := World.ownsRow_nil _ _ _ _
theorem LineV.form {w : World} {base : Nat} {ns ws : List CmdS} {v : Value} (h : LineV w base ns ws v) : ∃ a b, v = .agg #[a, b] := by
 obtain ⟨a, b, e, _⟩ := h
 exact ⟨a, b, e⟩

set_option maxRecDepth 100000 in
theorem ladd_noline (ns ws : List CmdS) (v : Value) (base : Nat) (x : CmdS) (w : World) (h : LineV w base ns ws v) (hr : lineB ns ws = false) :
  Calls Tryz.prog 66 #[v, x.val] w fun e w' => AddPost w [] [] [] 1 e w' := by
 obtain ⟨a, b, rfl⟩ := h.form
 have HL := Lib.hid h
 have HR := Lib.hid hr
 obtain ⟨x0, x1, x2, x3, x4, x5, x6⟩ := x
 simp only [CmdS.val]
 clear h hr
 go_enter Tryz.func66, Tryz.ntmps66
 go_wp2_with fail
 refine (lright_at ns ws _ base false _ (HL.out.below ?b1) HR.out).mono ?_
 case b1 => exact belowBy
 rintro e w1 ⟨rfl, hb1⟩
 obtain ⟨hb1c, hb1f⟩ := bcell hb1
 have hb1z := hb1.size
 have hb1c0 := fun o => hb1c (w.heap.size) o sideBy
 have hb1f0 := fun o => hb1f (w.heap.size) o sideBy
 have hb1l0 := below_lt (b := w.heap.size) hb1 sideBy
 have hb1c1 := fun o => hb1c (w.heap.size + 1) o sideBy
 have hb1f1 := fun o => hb1f (w.heap.size + 1) o sideBy
 have hb1l1 := below_lt (b := w.heap.size + 1) hb1 sideBy
 have hb1c2 := fun o => hb1c (w.heap.size + 2) o sideBy
 have hb1f2 := fun o => hb1f (w.heap.size + 2) o sideBy
 have hb1l2 := below_lt (b := w.heap.size + 2) hb1 sideBy
 have hB1 : Below w.heap.size w w1 := by exact belowBy
 clear hb1
 go_wp2
 exact bodyPost_ret (v := .tuple #[.agg #[.slice none 0 0, .slice none 0 0], .slice none 0 0, .int .i64 1]) (by simp [results, Tryz.results66, go_sem, hb1c2, hb1f2]) rfl ⟨_, _, rfl, nil_line, nil_ids, by exact belowBy⟩

set_option maxRecDepth 100000 in
theorem ladd_nomode (ns ws : List CmdS) (v : Value) (base : Nat) (x : CmdS) (w : World) (h : LineV w base ns ws v) (hr : lineB ns ws = true) (hm : modeB x.mode = false) :
  Calls Tryz.prog 66 #[v, x.val] w fun e w' => AddPost w [] [] [] 1 e w' := by
 obtain ⟨a, b, rfl⟩ := h.form
 have HL := Lib.hid h
 have HR := Lib.hid hr
 have hmo := fun w => lmode_any x w
 rw [hm] at hmo
 have HM := Lib.hid hmo
 obtain ⟨x0, x1, x2, x3, x4, x5, x6⟩ := x
 simp only [CmdS.val] at HM ⊢
 clear h hr hm hmo
 go_enter Tryz.func66, Tryz.ntmps66
 go_wp2_with fail
 refine (lright_at ns ws _ base true _ (HL.out.below ?b1) HR.out).mono ?_
 case b1 => exact belowBy
 rintro e w1 ⟨rfl, hb1⟩
 obtain ⟨hb1c, hb1f⟩ := bcell hb1
 have hb1z := hb1.size
 have hb1c0 := fun o => hb1c (w.heap.size) o sideBy
 have hb1f0 := fun o => hb1f (w.heap.size) o sideBy
 have hb1l0 := below_lt (b := w.heap.size) hb1 sideBy
 have hb1c1 := fun o => hb1c (w.heap.size + 1) o sideBy
 have hb1f1 := fun o => hb1f (w.heap.size + 1) o sideBy
 have hb1l1 := below_lt (b := w.heap.size + 1) hb1 sideBy
 have hb1c2 := fun o => hb1c (w.heap.size + 2) o sideBy
 have hb1f2 := fun o => hb1f (w.heap.size + 2) o sideBy
 have hb1l2 := below_lt (b := w.heap.size + 2) hb1 sideBy
 have hB1 : Below w.heap.size w w1 := by exact belowBy
 clear hb1
 go_wp2_with fail
 refine (HM.out _).mono ?_
 rintro e w2 ⟨rfl, hb2⟩
 obtain ⟨hb2c, hb2f⟩ := bcell hb2
 have hb2z := hb2.size
 have hb2c0 := fun o => hb2c (w.heap.size + 2) o sideBy
 have hb2f0 := fun o => hb2f (w.heap.size + 2) o sideBy
 have hb2l0 := below_lt (b := w.heap.size + 2) hb2 sideBy
 go_wp2
 exact bodyPost_ret (v := .tuple #[.agg #[.slice none 0 0, .slice none 0 0], .slice none 0 0, .int .i64 1]) (by simp [results, Tryz.results66, go_sem, hb1c2, hb1f2, hb2c0, hb2f0]) rfl ⟨_, _, rfl, nil_line, nil_ids, by exact belowBy⟩

theorem read_new (x : CmdS) (w : World) (base : Nat) (hb : base ≤ w.heap.size) (T : TypeId) : ReadC (w.alloc (.cells #[.int .i64 x.id, .int .i64 x.kind, .int .i64 x.target, .int .i64 x.speed, .int .i64 x.mode, .int .i64 x.num, .int .i64 x.den] T)) 1 (cmdsC [x]) base (.slice (some ⟨w.heap.size, 0, none⟩) 1 1) := by
 refine ⟨_, _, rfl, Nat.le_refl _, by omega, ⟨rfl, fun _ => ⟨w.heap.size, 0, rfl, by simp, fun j u hu => ?_⟩⟩, fun b o _ e => ?_⟩
 ·rw [Nat.zero_add]
  refine heap_cell j _ (heap_alloc_new w _) ?_
  rw [List.getElem?_toArray]
  exact hu
 ·injection e with e
  injection e with e1
  omega

set_option maxRecDepth 100000 in
theorem ladd_full (ns ws : List CmdS) (v : Value) (base : Nat) (x : CmdS) (w : World) (h : LineV w base ns ws v) (hr : lineB ns ws = true) (hm : modeB x.mode = true) (h0 : x.mode ≠ 0) (h4 : ws.length = 4) :
  Calls Tryz.prog 66 #[v, x.val] w fun e w' => AddPost w [] [] [] 8 e w' := by
 have HL := Lib.hid h
 obtain ⟨a, b, rfl, ⟨A, c, rfl, q1, q2, -⟩, ⟨D, d, rfl, q3, q4, -⟩⟩ := h
 have HR := Lib.hid hr
 have hmo := fun w => lmode_any x w
 rw [hm] at hmo
 have HM := Lib.hid hmo
 obtain ⟨x0, x1, x2, x3, x4, x5, x6⟩ := x
 simp only [CmdS.val] at HM h0 ⊢
 have hb0 : (x4 == 0) = false := by simpa using h0
 rw [h4] at HL ⊢
 generalize ns.length = n at *
 clear hr hm hmo h0 h4
 go_enter Tryz.func66, Tryz.ntmps66
 go_wp2_with fail
 refine (lright_at ns ws _ base true _ (HL.out.below ?b1) HR.out).mono ?_
 case b1 => exact belowBy
 rintro e w1 ⟨rfl, hb1⟩
 obtain ⟨hb1c, hb1f⟩ := bcell hb1
 have hb1z := hb1.size
 have hb1c0 := fun o => hb1c (w.heap.size) o sideBy
 have hb1f0 := fun o => hb1f (w.heap.size) o sideBy
 have hb1l0 := below_lt (b := w.heap.size) hb1 sideBy
 have hb1c1 := fun o => hb1c (w.heap.size + 1) o sideBy
 have hb1f1 := fun o => hb1f (w.heap.size + 1) o sideBy
 have hb1l1 := below_lt (b := w.heap.size + 1) hb1 sideBy
 have hb1c2 := fun o => hb1c (w.heap.size + 2) o sideBy
 have hb1f2 := fun o => hb1f (w.heap.size + 2) o sideBy
 have hb1l2 := below_lt (b := w.heap.size + 2) hb1 sideBy
 have hB1 : Below w.heap.size w w1 := by exact belowBy
 clear hb1
 go_wp2_with fail
 refine (HM.out _).mono ?_
 rintro e w2 ⟨rfl, hb2⟩
 obtain ⟨hb2c, hb2f⟩ := bcell hb2
 have hb2z := hb2.size
 have hb2c0 := fun o => hb2c (w.heap.size) o sideBy
 have hb2f0 := fun o => hb2f (w.heap.size) o sideBy
 have hb2l0 := below_lt (b := w.heap.size) hb2 sideBy
 have hb2c1 := fun o => hb2c (w.heap.size + 1) o sideBy
 have hb2f1 := fun o => hb2f (w.heap.size + 1) o sideBy
 have hb2l1 := below_lt (b := w.heap.size + 1) hb2 sideBy
 have hb2c2 := fun o => hb2c (w.heap.size + 2) o sideBy
 have hb2f2 := fun o => hb2f (w.heap.size + 2) o sideBy
 have hb2l2 := below_lt (b := w.heap.size + 2) hb2 sideBy
 go_wp2
 exact bodyPost_ret (v := .tuple #[.agg #[.slice none 0 0, .slice none 0 0], .slice none 0 0, .int .i64 8]) (by simp [results, Tryz.results66, go_sem, hb1c2, hb1f2, hb2c2, hb2f2]) rfl ⟨_, _, rfl, nil_line, nil_ids, by exact belowBy⟩

set_option maxRecDepth 100000 in
theorem ladd_abort (ns ws : List CmdS) (v : Value) (base : Nat) (x : CmdS) (w : World) (h : LineV w base ns ws v) (hr : lineB ns ws = true) (h0 : x.mode = 0) :
  Calls Tryz.prog 66 #[v, x.val] w fun e w' => AddPost w [x] [] (ns ++ ws) 0 e w' := by
 have HL := Lib.hid h
 have hy := lineB_yes hr
 have hlens : ns.length ≤ 1 ∧ ws.length ≤ 4 := ⟨hy.1, hy.2.1⟩
 obtain ⟨a, b, rfl⟩ := h.form
 have HR := Lib.hid hr
 have hmo := fun w => lmode_any x w
 rw [h0, show modeB 0 = true from rfl] at hmo
 have HM := Lib.hid hmo
 obtain ⟨x0, x1, x2, x3, x4, x5, x6⟩ := x
 simp only [CmdS.val] at HM h0 ⊢
 subst h0
 clear hr hmo hy h
 go_enter Tryz.func66, Tryz.ntmps66
 go_wp2_with fail
 refine (lright_at ns ws _ base true _ (HL.out.below ?b1) HR.out).mono ?_
 case b1 => exact belowBy
 rintro e w1 ⟨rfl, hb1⟩
 obtain ⟨hb1c, hb1f⟩ := bcell hb1
 have hb1z := hb1.size
 have hb1c0 := fun o => hb1c (w.heap.size) o sideBy
 have hb1f0 := fun o => hb1f (w.heap.size) o sideBy
 have hb1l0 := below_lt (b := w.heap.size) hb1 sideBy
 have hb1c1 := fun o => hb1c (w.heap.size + 1) o sideBy
 have hb1f1 := fun o => hb1f (w.heap.size + 1) o sideBy
 have hb1l1 := below_lt (b := w.heap.size + 1) hb1 sideBy
 have hb1c2 := fun o => hb1c (w.heap.size + 2) o sideBy
 have hb1f2 := fun o => hb1f (w.heap.size + 2) o sideBy
 have hb1l2 := below_lt (b := w.heap.size + 2) hb1 sideBy
 have hB1 : Below w.heap.size w w1 := by exact belowBy
 clear hb1
 go_wp2_with fail
 refine (HM.out _).mono ?_
 rintro e w2 ⟨rfl, hb2⟩
 obtain ⟨hb2c, hb2f⟩ := bcell hb2
 have hb2z := hb2.size
 have hb2c0 := fun o => hb2c (w.heap.size) o sideBy
 have hb2f0 := fun o => hb2f (w.heap.size) o sideBy
 have hb2l0 := below_lt (b := w.heap.size) hb2 sideBy
 have hb2c1 := fun o => hb2c (w.heap.size + 1) o sideBy
 have hb2f1 := fun o => hb2f (w.heap.size + 1) o sideBy
 have hb2l1 := below_lt (b := w.heap.size + 1) hb2 sideBy
 have hb2c2 := fun o => hb2c (w.heap.size + 2) o sideBy
 have hb2f2 := fun o => hb2f (w.heap.size + 2) o sideBy
 have hb2l2 := below_lt (b := w.heap.size + 2) hb2 sideBy
 have hB2 : Below w.heap.size w w2 := by exact belowBy
 clear hb2
 have hz1 := hb1z
 have hz2 := hb2z
 have s0 : w2.cell? ⟨w.heap.size, 0, none⟩ = some a := by go_simp
 have s1 : w2.cell? ⟨w.heap.size, 1, none⟩ = some b := by go_simp
 have t0 : w2.cell? ⟨w.heap.size + 1, 0, none⟩ = some (.int .i64 x0) := by go_simp
 have t1 : w2.cell? ⟨w.heap.size + 1, 1, none⟩ = some (.int .i64 x1) := by go_simp
 have t2 : w2.cell? ⟨w.heap.size + 1, 2, none⟩ = some (.int .i64 x2) := by go_simp
 have t3 : w2.cell? ⟨w.heap.size + 1, 3, none⟩ = some (.int .i64 x3) := by go_simp
 have t4 : w2.cell? ⟨w.heap.size + 1, 4, none⟩ = some (.int .i64 0) := by go_simp
 have t5 : w2.cell? ⟨w.heap.size + 1, 5, none⟩ = some (.int .i64 x5) := by go_simp
 have t6 : w2.cell? ⟨w.heap.size + 1, 6, none⟩ = some (.int .i64 x6) := by go_simp
 have r0 : w2.cell? ⟨w.heap.size + 2, 0, none⟩ = some (.slice none 0 0) := by go_simp
 have r1 : w2.cell? ⟨w.heap.size + 2, 1, none⟩ = some (.slice none 0 0) := by go_simp
 have rf : ∀ o, w2.frozen? ⟨w.heap.size + 2, o, none⟩ = false := fun o => by go_simp
 have l0 : w.heap.size < w2.heap.size := by omega
 have l1 : w.heap.size + 1 < w2.heap.size := by omega
 have l2 : w.heap.size + 2 < w2.heap.size := by omega
 have HL2 := Lib.hid (HL.out.below hB2)
 clear HL HM HR hb1c hb1f hb1z hb1c0 hb1c1 hb1c2 hb1f0 hb1f1 hb1f2 hb1l0 hb1l1 hb1l2 hb2c hb2f hb2z hb2c0 hb2c1 hb2c2 hb2f0 hb2f1 hb2f2 hb2l0 hb2l1 hb2l2 hB1 hz1 hz2
 obtain ⟨W0, hW0⟩ : ∃ W0, w.heap.size + 3 = W0 := ⟨_, rfl⟩
 have hWle : W0 ≤ w2.heap.size := by omega
 have hWlt : w.heap.size + 2 < W0 := by omega
 clear hW0
 go_wp2_with fail
 refine wp_region_wild 6 1000 ([{ i := 1, d := 22, R := isReadC 1 (cmdsC [⟨x0, x1, x2, x3, 0, x5, x6⟩]) W0, N := (fun _ => []) }, { i := 2, d := 23, R := isLineV [⟨x0, x1, x2, x3, 0, x5, x6⟩] [] W0, N := (fun _ => []) }, { i := 4, d := 25, R := isOwnC (ns ++ ws).length (cmdsC (ns ++ ws)) W0, N := (fun _ => []) }, { i := 5, d := 26, R := isIdsV (ns ++ ws) W0, N := (fun _ => []) }] : List Wd) [false, true, true, false, true, true] rfl (by kernel_rfl) (by kernel_rfl) (fun _ _ _ _ _ h => h) (by kernel_rfl) ?_ ?_
 ·intro x hx v w1 w2 hR hb
  simp only [List.mem_cons, List.not_mem_nil, or_false] at hx
  rcases hx with rfl | rfl | rfl | rfl
  all_goals (dsimp only at hR ⊢; exact hR.below hb)
 apply Exists.intro
 refine ⟨fun S hS hne => ?_, ?_, ?_, ?_⟩
 ·simp only [List.take_succ_cons, List.take_zero, List.map_cons, List.map_nil]
  delta CS
  repeat (first | with_reducible refine mask_skip ?_ | ((with_reducible refine mask_keep ?_); go_big_quiet_step (fail)))
  exact mask_nil rfl
 ·intro x hx he
  simp only [List.mem_cons, List.not_mem_nil, or_false] at hx
  rcases hx with rfl | rfl | rfl | rfl
  all_goals (dsimp only at he; exact absurd he (by decide))
 ·skip
  simp only [List.forall_mem_cons, List.not_mem_nil, false_implies, implies_true, and_true]
  refine ⟨?_, ?_, ?_, ?_⟩
  all_goals
   intro o ho
   simp only [List.getElem?_cons_succ, List.getElem?_cons_zero, Option.some.injEq] at ho
   subst ho
   intro vs w' hbw hdeps
   simp only [putsF, List.foldl_cons, List.foldl_nil]
   refine ⟨by first | rfl | go_simp, ?_⟩
   first | with_reducible refine wild_plain ?_ | with_reducible refine wild_link ?_
   simp only [List.forall_mem_cons, List.not_mem_nil, false_implies, implies_true, and_true] at hdeps
   obtain ⟨dp0, dp1, dp2, dp3⟩ := hdeps
  ·clear dp0 dp1 dp2 dp3
   go_simp
   have hw := hbw.size
   exact wildUpon_value ⟨read_new ⟨x0, x1, x2, x3, 0, x5, x6⟩ _ W0 (by omega) _, (Below.refl _ _).alloc (Nat.le_refl _) _, by simp⟩
  ·have hr := dp0 (by decide)
   clear dp0 dp1 dp2 dp3
   go_simp
   have hw := hbw.size
   apply wildUpon_enter
   refine (lmade_at [⟨x0, x1, x2, x3, 0, x5, x6⟩] _ W0 _ hr (by simp)).mono ?_
   rintro e w6 ⟨⟨v, rfl, hl⟩, hb6⟩
   exact ⟨_, rfl, ⟨hl.base0 (by omega), trivial⟩, hb6, by simp⟩
  ·clear dp0 dp1 dp2 dp3
   go_simp
   have hw := hbw.size
   apply wildUpon_enter
   refine (lall_at ns ws _ base _ (HL2.out.below hbw) (by omega) (by omega)).mono ?_
   rintro e w6 ⟨⟨v, rfl, ho⟩, hb6⟩
   rw [List.length_append] at ho
   exact ⟨_, rfl, ⟨_, rfl, own_base ho (by omega)⟩, hb6, by simp⟩
  ·obtain ⟨u4, e4, o4⟩ := dp2 (by decide)
   clear dp0 dp1 dp2 dp3
   rw [e4]
   go_simp
   have hw := hbw.size
   apply wildUpon_enter
   refine (lids_at (ns ++ ws) _ W0 _ (ReadC.of_own o4) (by rw [List.length_append]; omega)).mono ?_
   rintro e w6 ⟨⟨v, rfl, ho⟩, hb6⟩
   exact ⟨_, rfl, ⟨_, rfl, own_base ho (by omega)⟩, hb6, by simp⟩
 ·skip
  intro vs w' hbw hr hap hlk
  simp only [List.forall_mem_cons, List.not_mem_nil, false_implies, implies_true, and_true] at hr hap
  obtain ⟨hh1, hh2, hh4, hh5⟩ := hr
  obtain ⟨A1, c1, e1, k1, m1, l1', f1⟩ := hh1
  obtain ⟨⟨a2, b2, e2, r2, s2⟩, tt2⟩ := hh2
  obtain ⟨u4, e4, o4⟩ := hh4
  obtain ⟨u5, e5, o5⟩ := hh5
  clear hlk
  try simp only [e1, e2, e4, e5] at hap
  try simp only [newB_ptr, newB_row, newB_win, newB_win2, List.mem_cons, forall_eq_or_imp, or_false, List.mem_singleton, forall_eq, List.not_mem_nil, false_implies, implies_true, not_false_eq_true, and_true, true_and] at  hap
  try simp only [ne_eq, not_true_eq_false, false_implies, true_and, and_true, Nat.reduceEqDiff, not_false_eq_true, forall_const] at hap
  simp only [putsF, List.foldl_cons, List.foldl_nil, e1, e2, e4, e5, List.drop_succ_cons, List.drop_zero]
  clear e1 e2 e4 e5
  have hw := hbw.size
  obtain ⟨A2, c2, rfl, ka, ma, la, fa⟩ := r2
  obtain ⟨D2, d2, rfl, kd, md, ld, fd⟩ := s2
  have HLL : Hid (LineV w' W0 [⟨x0, x1, x2, x3, 0, x5, x6⟩] [] (.agg #[.slice A2 1 c2, .slice D2 0 d2])) := Lib.hid ⟨_, _, rfl, ⟨A2, c2, rfl, ka, ma, la, fa⟩, ⟨D2, d2, rfl, kd, md, ld, fd⟩⟩
  have HI : Hid (IdsV w' (ns ++ ws) W0 u5) := Lib.hid o5
  have g0 := (hbw.cell (p := ⟨w.heap.size + 2, 0, none⟩) l2).trans r0
  have g1 := (hbw.cell (p := ⟨w.heap.size + 2, 1, none⟩) l2).trans r1
  have gf := fun o => (hbw.frozen (p := ⟨w.heap.size + 2, o, none⟩) l2).trans (rf o)
  have hB : Below w.heap.size w w' := hB2.trans (hbw.mono (by omega))
  have hl3 : w.heap.size + 2 < w'.heap.size := by omega
  clear l1' f1 la fa ld fd o4 o5 hbw s0 s1 t0 t1 t2 t3 t4 t5 t6 r0 r1 rf l0 l1 l2 HL2 tt2
  go_wp2
  refine bodyPost_ret (v := .tuple #[.agg #[.slice A2 1 c2, .slice D2 0 d2], u5, .int .i64 0]) ?_ rfl ?_
  ·simp [results, Tryz.results66, go_sem, g0, g1, gf]
  ·exact ⟨_, _, rfl, ((HLL.out.store (p := ⟨w.heap.size + 2, 0, none⟩) hWlt _).store (p := ⟨w.heap.size + 2, 1, none⟩) hWlt _).base0 (by omega), own_base ((HI.out.store (p := ⟨w.heap.size + 2, 0, none⟩) hWlt _).store (p := ⟨w.heap.size + 2, 1, none⟩) hWlt _) (by omega), by exact belowBy⟩


set_option maxRecDepth 100000 in
theorem ladd_more (ns ws : List CmdS) (v : Value) (base : Nat) (x : CmdS) (w : World) (h : LineV w base ns ws v) (hr : lineB ns ws = true) (hm : modeB x.mode = true) (h0 : x.mode ≠ 0) (h4 : ws.length ≠ 4) :
  Calls Tryz.prog 66 #[v, x.val] w fun e w' => AddPost w ((ns ++ ws ++ [x]).take 1) ((ns ++ ws ++ [x]).drop 1) [] 0 e w' := by
 have HL := Lib.hid h
 have hy := lineB_yes hr
 have hlens : ns.length ≤ 1 ∧ ws.length ≤ 4 := ⟨hy.1, hy.2.1⟩
 obtain ⟨i0, hi0, hz0, hz1, hz2⟩ := info_parts cmd_info
 have HI := Lib.hid hi0
 have HZ0 := Lib.hid hz0
 have HZ1 := Lib.hid hz1
 have HZ2 := Lib.hid hz2
 clear hi0 hz0 hz1 hz2
 obtain ⟨a, b, rfl, ⟨A, c, rfl, q1, q2, -⟩, ⟨D, d, rfl, q3, q4, -⟩⟩ := h
 have HR := Lib.hid hr
 have hmo := fun w => lmode_any x w
 rw [hm] at hmo
 have HM := Lib.hid hmo
 obtain ⟨x0, x1, x2, x3, x4, x5, x6⟩ := x
 simp only [CmdS.val] at HM h0 ⊢
 have hb0 : (x4 == 0) = false := by simpa using h0
 have hb4 : ((ws.length : Int) == 4) = false := by simp; omega
 obtain ⟨n, hn⟩ : ∃ n, ns.length = n := ⟨_, rfl⟩
 obtain ⟨m, hm2⟩ : ∃ m, ws.length = m := ⟨_, rfl⟩
 rw [hn] at q1 hlens ⊢
 rw [hm2] at q3 hlens hb4 ⊢
 rw [hn, hm2] at HL
 have HNM := Lib.hid (show (ns ++ ws).length = n + m by rw [List.length_append, hn, hm2])
 clear hr hmo hy hm h0 h4 hn hm2
 go_enter Tryz.func66, Tryz.ntmps66
 go_wp2_with fail
 refine (lright_at ns ws _ base true _ (HL.out.below ?b1) HR.out).mono ?_
 case b1 => exact belowBy
 rintro e w1 ⟨rfl, hb1⟩
 obtain ⟨hb1c, hb1f⟩ := bcell hb1
 have hb1z := hb1.size
 have hb1c0 := fun o => hb1c (w.heap.size) o sideBy
 have hb1f0 := fun o => hb1f (w.heap.size) o sideBy
 have hb1l0 := below_lt (b := w.heap.size) hb1 sideBy
 have hb1c1 := fun o => hb1c (w.heap.size + 1) o sideBy
 have hb1f1 := fun o => hb1f (w.heap.size + 1) o sideBy
 have hb1l1 := below_lt (b := w.heap.size + 1) hb1 sideBy
 have hb1c2 := fun o => hb1c (w.heap.size + 2) o sideBy
 have hb1f2 := fun o => hb1f (w.heap.size + 2) o sideBy
 have hb1l2 := below_lt (b := w.heap.size + 2) hb1 sideBy
 have hB1 : Below w.heap.size w w1 := by exact belowBy
 clear hb1
 go_wp2_with fail
 refine (HM.out _).mono ?_
 rintro e w2 ⟨rfl, hb2⟩
 obtain ⟨hb2c, hb2f⟩ := bcell hb2
 have hb2z := hb2.size
 have hb2c0 := fun o => hb2c (w.heap.size) o sideBy
 have hb2f0 := fun o => hb2f (w.heap.size) o sideBy
 have hb2l0 := below_lt (b := w.heap.size) hb2 sideBy
 have hb2c1 := fun o => hb2c (w.heap.size + 1) o sideBy
 have hb2f1 := fun o => hb2f (w.heap.size + 1) o sideBy
 have hb2l1 := below_lt (b := w.heap.size + 1) hb2 sideBy
 have hb2c2 := fun o => hb2c (w.heap.size + 2) o sideBy
 have hb2f2 := fun o => hb2f (w.heap.size + 2) o sideBy
 have hb2l2 := below_lt (b := w.heap.size + 2) hb2 sideBy
 have hB2 : Below w.heap.size w w2 := by exact belowBy
 clear hb2
 have hz1 := hb1z
 have hz2 := hb2z
 have s0 : w2.cell? ⟨w.heap.size, 0, none⟩ = some (.slice A n c) := by go_simp
 have s1 : w2.cell? ⟨w.heap.size, 1, none⟩ = some (.slice D m d) := by go_simp
 have t0 : w2.cell? ⟨w.heap.size + 1, 0, none⟩ = some (.int .i64 x0) := by go_simp
 have t1 : w2.cell? ⟨w.heap.size + 1, 1, none⟩ = some (.int .i64 x1) := by go_simp
 have t2 : w2.cell? ⟨w.heap.size + 1, 2, none⟩ = some (.int .i64 x2) := by go_simp
 have t3 : w2.cell? ⟨w.heap.size + 1, 3, none⟩ = some (.int .i64 x3) := by go_simp
 have t4 : w2.cell? ⟨w.heap.size + 1, 4, none⟩ = some (.int .i64 x4) := by go_simp
 have t5 : w2.cell? ⟨w.heap.size + 1, 5, none⟩ = some (.int .i64 x5) := by go_simp
 have t6 : w2.cell? ⟨w.heap.size + 1, 6, none⟩ = some (.int .i64 x6) := by go_simp
 have r0 : w2.cell? ⟨w.heap.size + 2, 0, none⟩ = some (.slice none 0 0) := by go_simp
 have r1 : w2.cell? ⟨w.heap.size + 2, 1, none⟩ = some (.slice none 0 0) := by go_simp
 have rf : ∀ o, w2.frozen? ⟨w.heap.size + 2, o, none⟩ = false := fun o => by go_simp
 have l0 : w.heap.size < w2.heap.size := by omega
 have l1 : w.heap.size + 1 < w2.heap.size := by omega
 have l2 : w.heap.size + 2 < w2.heap.size := by omega
 have HL2 := Lib.hid (HL.out.below hB2)
 clear HL HM HR hb1c hb1f hb1z hb1c0 hb1c1 hb1c2 hb1f0 hb1f1 hb1f2 hb1l0 hb1l1 hb1l2 hb2c hb2f hb2z hb2c0 hb2c1 hb2c2 hb2f0 hb2f1 hb2f2 hb2l0 hb2l1 hb2l2 hB1 hz1 hz2
 obtain ⟨W0, hW0⟩ : ∃ W0, w.heap.size + 3 = W0 := ⟨_, rfl⟩
 have hWle : W0 ≤ w2.heap.size := by omega
 have hWlt : w.heap.size + 2 < W0 := by omega
 clear hW0
 go_wp2_with fail
 refine wp_region_wild 4 1000 ([{ i := 1, d := 34, R := isOwnC (n + m) (cmdsC (ns ++ ws)) W0, N := (fun _ => []) }, { i := 3, d := 36, R := isReadC 1 (cmdsC [⟨x0, x1, x2, x3, x4, x5, x6⟩]) W0, N := (fun _ => []) }] : List Wd) [false, true, false, true] rfl (by kernel_rfl) (by kernel_rfl) (fun _ _ _ _ _ h => h) (by kernel_rfl) ?_ ?_
 ·intro x hx v w1 w2 hR hb
  simp only [List.mem_cons, List.not_mem_nil, or_false] at hx
  rcases hx with rfl | rfl
  all_goals (dsimp only at hR ⊢; exact hR.below hb)
 apply Exists.intro
 refine ⟨fun S hS hne => ?_, ?_, ?_, ?_⟩
 ·simp only [List.take_succ_cons, List.take_zero, List.map_cons, List.map_nil]
  delta CS
  repeat (first | with_reducible refine mask_skip ?_ | ((with_reducible refine mask_keep ?_); go_big_quiet_step (fail)))
  exact mask_nil rfl
 ·intro x hx he
  simp only [List.mem_cons, List.not_mem_nil, or_false] at hx
  rcases hx with rfl | rfl
  all_goals (dsimp only at he; exact absurd he (by decide))
 ·skip
  simp only [List.forall_mem_cons, List.not_mem_nil, false_implies, implies_true, and_true]
  refine ⟨?_, ?_⟩
  all_goals
   intro o ho
   simp only [List.getElem?_cons_succ, List.getElem?_cons_zero, Option.some.injEq] at ho
   subst ho
   intro vs w' hbw hdeps
   simp only [putsF, List.foldl_cons, List.foldl_nil]
   refine ⟨by first | rfl | go_simp, ?_⟩
   first | with_reducible refine wild_plain ?_ | with_reducible refine wild_link ?_
   simp only [List.forall_mem_cons, List.not_mem_nil, false_implies, implies_true, and_true] at hdeps
   obtain ⟨dp0, dp1⟩ := hdeps
  ·clear dp0 dp1
   go_simp
   have hw := hbw.size
   apply wildUpon_enter
   refine (lall_at ns ws _ base _ (HL2.out.below hbw) (by have := HNM.out; rw [List.length_append] at this; omega) (by have := HNM.out; rw [List.length_append] at this; omega)).mono ?_
   rintro e w6 ⟨⟨v, rfl, ho⟩, hb6⟩
   rw [HNM.out] at ho
   exact ⟨_, rfl, ⟨_, rfl, own_base ho (by omega)⟩, hb6, by simp⟩
  ·clear dp0 dp1
   go_simp
   have hw := hbw.size
   exact wildUpon_value ⟨read_new ⟨x0, x1, x2, x3, x4, x5, x6⟩ _ W0 (by omega) _, (Below.refl _ _).alloc (Nat.le_refl _) _, by simp⟩
 ·skip
  intro vs w' hbw hr hap hlk
  simp only [List.forall_mem_cons, List.not_mem_nil, false_implies, implies_true, and_true] at hr hap
  obtain ⟨hh1, hh3⟩ := hr
  obtain ⟨u1, e1, o1⟩ := hh1
  obtain ⟨A3, c3, e3, k3, m3, l3, f3⟩ := hh3
  clear hlk
  try simp only [e1, e3] at hap
  try simp only [newB_ptr, newB_row, newB_win, newB_win2, List.mem_cons, forall_eq_or_imp, or_false, List.mem_singleton, forall_eq, List.not_mem_nil, false_implies, implies_true, not_false_eq_true, and_true, true_and] at  hap
  try simp only [ne_eq, not_true_eq_false, false_implies, true_and, and_true, Nat.reduceEqDiff, not_false_eq_true, forall_const] at hap
  simp only [putsF, List.foldl_cons, List.foldl_nil, e1, e3, List.drop_succ_cons, List.drop_zero]
  clear e1 e3
  have hw := hbw.size
  have g0 := (hbw.cell (p := ⟨w.heap.size + 2, 0, none⟩) l2).trans r0
  have g1 := (hbw.cell (p := ⟨w.heap.size + 2, 1, none⟩) l2).trans r1
  have gf := fun o => (hbw.frozen (p := ⟨w.heap.size + 2, o, none⟩) l2).trans (rf o)
  have hB : Below w.heap.size w w' := hB2.trans (hbw.mono (by omega))
  have hl3 : w.heap.size + 2 < w'.heap.size := by omega
  have HO1 := Lib.hid o1
  have HL3 := Lib.hid l3
  clear o1 l3 f3 hbw s0 s1 t0 t1 t2 t3 t4 t5 t6 r0 r1 rf l0 l1 l2 HL2
  go_wp2_with (at_builtin; refine wpList_app _ rfl _ _ 29 rfl W0 63 i0 _ 7 56 Tryz.underlying29 HI.out HZ0.out HZ1.out HZ2.out rfl (by decide) u1 (n + m) (cmdsC (ns ++ ws)) rfl HO1.out w'.heap.size A3 1 c3 (cmdsC [⟨x0, x1, x2, x3, x4, x5, x6⟩]) rfl HL3.out (cmdsC_one _) ?c1 ?c2 ?c3 ?_)
  case c1 => unfold maxLen; omega
  case c2 => omega
  case c3 => omega
  intro v3 w3 hown3 hgrow _
  have hq := below_grown (Below.refl W0 w') hgrow HO1.out (Nat.le_refl _) (by omega)
  have g0' := (hq.cell (p := ⟨w.heap.size + 2, 0, none⟩) hWlt).trans g0
  have g1' := (hq.cell (p := ⟨w.heap.size + 2, 1, none⟩) hWlt).trans g1
  have gf' := fun o => (hq.frozen (p := ⟨w.heap.size + 2, o, none⟩) hWlt).trans (gf o)
  have hB3 : Below w.heap.size w w3 := hB.trans (hq.mono (by omega))
  have hw3 := hq.size
  rw [← cmdsC_append] at hown3
  have hlen3 : (ns ++ ws ++ [(⟨x0, x1, x2, x3, x4, x5, x6⟩ : CmdS)]).length = n + m + 1 := by rw [List.length_append, HNM.out]; rfl
  have HR3 := Lib.hid (ReadC.of_own hown3)
  rw [← hlen3] at HR3
  have HLEN := Lib.hid hlen3
  clear hown3 hgrow hq g0 g1 gf hB hlen3 HO1 HL3
  obtain ⟨n4, hn4⟩ : ∃ n, ((ns ++ ws ++ [(⟨x0, x1, x2, x3, x4, x5, x6⟩ : CmdS)]).take 1).length = n := ⟨_, rfl⟩
  obtain ⟨m4, hm4⟩ : ∃ n, ((ns ++ ws ++ [(⟨x0, x1, x2, x3, x4, x5, x6⟩ : CmdS)]).drop 1).length = n := ⟨_, rfl⟩
  have HN4 := Lib.hid hn4
  have HM4 := Lib.hid hm4
  clear hn4 hm4
  go_wp2_with fail
  refine (lmade_at _ _ W0 _ HR3.out (by rw [HLEN.out]; omega)).mono ?_
  rintro e w4 ⟨⟨v4, rfl, hl4⟩, hb4'⟩
  have hl3 : w.heap.size + 2 < w3.heap.size := by omega
  obtain ⟨a4, b4, rfl, ⟨A4, c4, rfl, ka, ma, la, fa⟩, ⟨D4, d4, rfl, kd, md, ld, fd⟩⟩ := hl4
  have hll : LineV w4 w3.heap.size _ _ (.agg #[.slice A4 _ c4, .slice D4 _ d4]) := ⟨_, _, rfl, ⟨A4, c4, rfl, ka, ma, la, fa⟩, ⟨D4, d4, rfl, kd, md, ld, fd⟩⟩
  rw [HN4.out, HM4.out] at hll ⊢
  have HLL := Lib.hid hll
  clear hll
  have g0 := (hb4'.cell (p := ⟨w.heap.size + 2, 0, none⟩) hl3).trans g0'
  have g1 := (hb4'.cell (p := ⟨w.heap.size + 2, 1, none⟩) hl3).trans g1'
  have gf := fun o => (hb4'.frozen (p := ⟨w.heap.size + 2, o, none⟩) hl3).trans (gf' o)
  have hB4 : Below w.heap.size w w4 := hB3.trans (hb4'.mono (by omega))
  clear hb4' g0' g1' gf' la fa ld fd HR3 ka ma kd md
  go_wp2
  refine bodyPost_ret (v := .tuple #[.agg #[.slice A4 n4 c4, .slice D4 m4 d4], .slice none 0 0, .int .i64 0]) ?_ rfl ?_
  ·simp [results, Tryz.results66, go_sem, g0, g1, gf]
  ·exact ⟨_, _, rfl, ((HLL.out.store (p := ⟨w.heap.size + 2, 0, none⟩) hl3 _).store (p := ⟨w.heap.size + 2, 1, none⟩) hl3 _).base0 (by omega), nil_ids, by exact belowBy⟩

end Go.Proofs.YthhfnageadckkaaGreat
