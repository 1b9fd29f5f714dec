/- Merged: Contracts of layer 12: a command is added, ends; all are cleared. Layer 12: two rows of numbers are the same or not. Layer 12: the laws are awake. Layer 12, for LineOne: what a step does to a line and to the numbers, in plain Lean. Layer 12, the reference: append of a row that lies anywhere as a step of a drawn region; all commands of a line. Layer 12, the reference: the IDs of a list; are two lists, two lines the same. Layer 12, the reference: the line of a list. -/
import Derived.Test.YthhfnageadckkaaGreatM12
import Derived.Deep.RegionHeld3
import Derived.BigQuiet
import Derived.Deep.RegionLaw
set_option linter.unusedVariables false
set_option linter.unusedSimpArgs false
set_option maxHeartbeats 2000000
namespace Go.Proofs.YthhfnageadckkaaGreat
open Go.RowKit
attribute [local go_sem] ite_max ite_min vite_max vite_min ext_cell ext_frozen extS_cell extS_frozen

theorem lmade_to (xs t1 t2 : List CmdS) (v : Value) (base : Nat) (w : World) (h : ReadC w xs.length (cmdsC xs) base v) (hn : xs.length ≤ 400) (h1 : xs.take 1 = t1) (h2 : xs.drop 1 = t2) :
  Calls Tryz.prog 92 #[v] w fun e w' => RetL w w' t1 t2 e ∧ Below w.heap.size w w' := by
 subst h1
 subst h2
 exact lmade_at xs v base w h hn

structure AddR where
 ns : List CmdS
 ws : List CmdS
 ids : List CmdS
 e : Int
def addR (ns ws : List CmdS) (x : CmdS) : AddR :=
 if (lineB ns ws && modeB x.mode) = false then ⟨[], [], [], 1⟩ else if x.mode = 0 then ⟨[x], [], ns ++ ws, 0⟩ else if ws.length = 4 then ⟨[], [], [], 8⟩ else ⟨(ns ++ ws ++ [x]).take 1, (ns ++ ws ++ [x]).drop 1, [], 0⟩

theorem ladd_at (ns ws : List CmdS) (v : Value) (base : Nat) (x : CmdS) (r : AddR) (w : World) (h : LineV w base ns ws v) (hr : addR ns ws x = r) :
  Calls Tryz.prog 66 #[v, x.val] w fun e w' => AddPost w r.ns r.ws r.ids r.e e w' := by
 subst hr
 unfold addR
 cases h1 : lineB ns ws
 ·exact ladd_noline ns ws v base x w h h1
 ·cases h2 : modeB x.mode
  ·exact ladd_nomode ns ws v base x w h h1 h2
  ·simp only [Bool.and_self, Bool.true_eq_false, if_false]
   by_cases h3 : x.mode = 0
   ·rw [if_pos h3]
    exact ladd_abort ns ws v base x w h h1 h3
   ·rw [if_neg h3]
    by_cases h4 : ws.length = 4
    ·rw [if_pos h4]
     exact ladd_full ns ws v base x w h h1 h2 h3 h4
    ·rw [if_neg h4]
     exact ladd_more ns ws v base x w h h1 h2 h3 h4

def EndPost (w : World) (ns ws : List CmdS) (id : Int) (e : Ending) (w' : World) : Prop := ∃ v, e = .returned (.tuple #[v, .int .i64 id]) ∧ LineV w' w.heap.size ns ws v ∧ Below w.heap.size w w'

set_option maxRecDepth 100000 in
theorem lend_noline (ns ws : List CmdS) (v : Value) (base : Nat) (w : World) (h : LineV w base ns ws v) (hr : lineB ns ws = false) :
  Calls Tryz.prog 70 #[v] w fun e w' => EndPost w [] [] 0 e w' := by
 obtain ⟨a, b, rfl⟩ := h.form
 have HL := Lib.hid h
 have HR := Lib.hid hr
 clear h hr
 go_enter Tryz.func70, Tryz.ntmps70
 go_wp2_with fail
 refine (lright_at ns ws _ base false _ (HL.out.below ?b1) HR.out).mono ?_
 case b1 => exact belowBy
 rintro e w1 ⟨rfl, hb1⟩
 obtain ⟨hb1c, hb1f⟩ := bcell hb1
 have hb1z := hb1.size
 have hb1c0 := fun o => hb1c (w.heap.size) o sideBy
 have hb1f0 := fun o => hb1f (w.heap.size) o sideBy
 have hb1l0 := below_lt (b := w.heap.size) hb1 sideBy
 have hb1c1 := fun o => hb1c (w.heap.size + 1) o sideBy
 have hb1f1 := fun o => hb1f (w.heap.size + 1) o sideBy
 have hb1l1 := below_lt (b := w.heap.size + 1) hb1 sideBy
 have hB1 : Below w.heap.size w w1 := by exact belowBy
 clear hb1
 go_wp2
 exact bodyPost_ret (v := .tuple #[.agg #[.slice none 0 0, .slice none 0 0], .int .i64 0]) (by simp [results, Tryz.results70, go_sem, hb1c1, hb1f1]) rfl ⟨_, rfl, nil_line, by exact belowBy⟩

set_option maxRecDepth 100000 in
theorem lend_none (ws : List CmdS) (v : Value) (base : Nat) (w : World) (h : LineV w base [] ws v) (hr : lineB [] ws = true) :
  Calls Tryz.prog 70 #[v] w fun e w' => EndPost w [] [] 0 e w' := by
 have HL := Lib.hid h
 obtain ⟨a, b, rfl, ⟨A, c, rfl, q1, q2, -⟩, ⟨D, d, rfl, q3, q4, -⟩⟩ := h
 have HR := Lib.hid hr
 clear hr
 simp only [List.length_nil] at HL q1 ⊢
 go_enter Tryz.func70, Tryz.ntmps70
 go_wp2_with fail
 refine (lright_at [] ws _ base true _ (HL.out.below ?b1) HR.out).mono ?_
 case b1 => exact belowBy
 rintro e w1 ⟨rfl, hb1⟩
 obtain ⟨hb1c, hb1f⟩ := bcell hb1
 have hb1z := hb1.size
 have hb1c0 := fun o => hb1c (w.heap.size) o sideBy
 have hb1f0 := fun o => hb1f (w.heap.size) o sideBy
 have hb1l0 := below_lt (b := w.heap.size) hb1 sideBy
 have hb1c1 := fun o => hb1c (w.heap.size + 1) o sideBy
 have hb1f1 := fun o => hb1f (w.heap.size + 1) o sideBy
 have hb1l1 := below_lt (b := w.heap.size + 1) hb1 sideBy
 have hB1 : Below w.heap.size w w1 := by exact belowBy
 clear hb1
 go_wp2
 exact bodyPost_ret (v := .tuple #[.agg #[.slice none 0 0, .slice none 0 0], .int .i64 0]) (by simp [results, Tryz.results70, go_sem, hb1c1, hb1f1]) rfl ⟨_, rfl, nil_line, by exact belowBy⟩

set_option maxRecDepth 100000 in
theorem lend_some (x : CmdS) (ws : List CmdS) (v : Value) (base : Nat) (w : World) (h : LineV w base [x] ws v) (hr : lineB [x] ws = true) :
  Calls Tryz.prog 70 #[v] w fun e w' => EndPost w (ws.take 1) (ws.drop 1) x.id e w' := by
 have HL := Lib.hid h
 have hlw : ws.length ≤ 4 := (lineB_yes hr).2.1
 obtain ⟨a, b, rfl, ⟨A, c, rfl, q1, q2, q3, -⟩, ⟨D, d, rfl, p1, p2, p3, -⟩⟩ := h
 obtain ⟨b, off, y, rfl, hb, hy, hcell⟩ := q3.cmd 0 (by simp)
 simp only [List.getElem?_cons_zero, Option.some.injEq] at hy
 subst hy
 have hc0 := hcell 0 (by omega)
 obtain ⟨x0, x1, x2, x3, x4, x5, x6⟩ := x
 simp only [CmdS.cells, List.getElem?_cons_zero, Nat.zero_mul, Nat.add_zero] at hc0
 have HR := Lib.hid hr
 have HY := Lib.hid p3
 clear hr hcell q3 p3
 simp only [List.length_cons, List.length_nil, Nat.zero_add] at HL q1 ⊢
 obtain ⟨m, hm⟩ : ∃ m, ws.length = m := ⟨_, rfl⟩
 rw [hm] at HL HY p1 hlw ⊢
 have HM := Lib.hid hm
 clear hm
 go_enter Tryz.func70, Tryz.ntmps70
 go_wp2_with fail
 refine (lright_at _ ws _ base true _ (HL.out.below ?b1) HR.out).mono ?_
 case b1 => exact belowBy
 rintro e w1 ⟨rfl, hb1⟩
 obtain ⟨hb1c, hb1f⟩ := bcell hb1
 have hb1z := hb1.size
 have hb1c0 := fun o => hb1c (w.heap.size) o sideBy
 have hb1f0 := fun o => hb1f (w.heap.size) o sideBy
 have hb1l0 := below_lt (b := w.heap.size) hb1 sideBy
 have hb1c1 := fun o => hb1c (w.heap.size + 1) o sideBy
 have hb1f1 := fun o => hb1f (w.heap.size + 1) o sideBy
 have hb1l1 := below_lt (b := w.heap.size + 1) hb1 sideBy
 have hb1c2 := fun o => hb1c (b) o sideBy
 have hb1f2 := fun o => hb1f (b) o sideBy
 have hb1l2 := below_lt (b := b) hb1 sideBy
 have hB1 : Below w.heap.size w w1 := by exact belowBy
 clear hb1
 have s0 : w1.cell? ⟨w.heap.size, 0, none⟩ = some (.slice (some ⟨b, off, none⟩) 1 c) := by go_simp
 have s1 : w1.cell? ⟨w.heap.size, 1, none⟩ = some (.slice D m d) := by go_simp
 have r0 : w1.cell? ⟨w.heap.size + 1, 0, none⟩ = some (.slice none 0 0) := by go_simp
 have r1 : w1.cell? ⟨w.heap.size + 1, 1, none⟩ = some (.slice none 0 0) := by go_simp
 have rf : ∀ o, w1.frozen? ⟨w.heap.size + 1, o, none⟩ = false := fun o => by go_simp
 have x0c := (hB1.cell (p := ⟨b, off, none⟩) hb).trans hc0
 have l0 : w.heap.size < w1.heap.size := by omega
 have l1 : w.heap.size + 1 < w1.heap.size := by omega
 have lb : b < w1.heap.size := by omega
 have HY1 : Hid (ReadC w1 ws.length (cmdsC ws) 0 (.slice D m d)) := Lib.hid ⟨D, d, by rw [HM.out], by rw [HM.out]; exact p1, p2, by rw [HM.out]; exact HY.out.on hB1, fun _ _ _ _ => Nat.zero_le _⟩
 have HB1 := Lib.hid hB1
 clear HL HY HR hb1c hb1f hb1z hb1c0 hb1c1 hb1c2 hb1f0 hb1f1 hb1f2 hb1l0 hb1l1 hb1l2 hB1 hc0
 have nb : ¬ b = w.heap.size + 1 := by omega
 have nb2 : ¬ w.heap.size + 1 = b := by omega
 have hz2 : w.heap.size + 2 ≤ w1.heap.size := by omega
 obtain ⟨t1, ht1⟩ : ∃ t, ws.take 1 = t := ⟨_, rfl⟩
 obtain ⟨t2, ht2⟩ : ∃ t, ws.drop 1 = t := ⟨_, rfl⟩
 have HT1 := Lib.hid ht1
 have HT2 := Lib.hid ht2
 clear ht1 ht2
 go_wp2_with fail
 go_region_held3 (fun w' => w'.cell? ⟨w.heap.size, 0, none⟩ = some (.slice (some ⟨b, off, none⟩) 1 c) ∧ w'.cell? ⟨w.heap.size, 1, none⟩ = some (.slice D m d) ∧ w'.cell? ⟨b, off, none⟩ = some (.int .i64 x0)) (go_keep)
  (first
   | (go_at_call 92; (with_reducible refine (lmade_to ws t1 t2 _ 0 _ (HY1.out.below ?bb) (by rw [HM.out]; omega) HT1.out HT2.out).mono ?_); (case bb => exact belowBy); rintro e w6 ⟨⟨v6, rfl, hl6⟩, hb6⟩; have hb16 : Below w1.heap.size w1 w6 := (by exact belowBy); obtain ⟨a6, b6, rfl, ⟨A6, c6, rfl, ka, ma, la, fa⟩, ⟨D6, d6, rfl, kd, md, ld, fd⟩⟩ := hl6; have k0 := (hb16.cell (p := ⟨w.heap.size, 0, none⟩) l0).trans s0; have k1 := (hb16.cell (p := ⟨w.heap.size, 1, none⟩) l0).trans s1; have kb := (hb16.cell (p := ⟨b, off, none⟩) lb).trans x0c; have j0 := (hb16.cell (p := ⟨w.heap.size + 1, 0, none⟩) l1).trans r0; have j1 := (hb16.cell (p := ⟨w.heap.size + 1, 1, none⟩) l1).trans r1; have jf := fun o => (hb16.frozen (p := ⟨w.heap.size + 1, o, none⟩) l1).trans (rf o)))
 all_goals
  have hll : LineV w6 w1.heap.size t1 t2 (.agg #[.slice A6 _ c6, .slice D6 _ d6]) := ⟨_, _, rfl, ⟨A6, c6, rfl, ka, ma, la, fa⟩, ⟨D6, d6, rfl, kd, md, ld, fd⟩⟩
  have HLL := Lib.hid hll
  have hl6 := hb16.size
  have hB6 : Below w.heap.size w w6 := HB1.out.trans (hb16.mono (by omega))
  clear hll ka ma la fa kd md ld fd hb6 hb16
  go_wp2
  refine bodyPost_ret (v := .tuple #[.agg #[.slice A6 t1.length c6, .slice D6 t2.length d6], .int .i64 x0]) ?_ rfl ?_
  ·simp [results, Tryz.results70, go_sem, j0, j1, jf]
  ·rw [HT1.out, HT2.out]
   exact ⟨_, rfl, ((HLL.out.store (p := ⟨w.heap.size + 1, 0, none⟩) l1 _).store (p := ⟨w.heap.size + 1, 1, none⟩) l1 _).base0 (by omega), by exact belowBy⟩

def ClearPost (w : World) (ids : List CmdS) (e : Ending) (w' : World) : Prop := ∃ v i, e = .returned (.tuple #[v, i]) ∧ LineV w' w.heap.size [] [] v ∧ IdsV w' ids w.heap.size i ∧ Below w.heap.size w w'

set_option maxRecDepth 100000 in
theorem lclear_noline (ns ws : List CmdS) (v : Value) (base : Nat) (w : World) (h : LineV w base ns ws v) (hr : lineB ns ws = false) :
  Calls Tryz.prog 84 #[v] w fun e w' => ClearPost w [] e w' := by
 obtain ⟨a, b, rfl⟩ := h.form
 have HL := Lib.hid h
 have HR := Lib.hid hr
 clear h hr
 go_enter Tryz.func84, Tryz.ntmps84
 go_wp2_with fail
 refine (lright_at ns ws _ base false _ (HL.out.below ?b1) HR.out).mono ?_
 case b1 => exact belowBy
 rintro e w1 ⟨rfl, hb1⟩
 obtain ⟨hb1c, hb1f⟩ := bcell hb1
 have hb1z := hb1.size
 have hb1c0 := fun o => hb1c (w.heap.size) o sideBy
 have hb1f0 := fun o => hb1f (w.heap.size) o sideBy
 have hb1l0 := below_lt (b := w.heap.size) hb1 sideBy
 have hb1c1 := fun o => hb1c (w.heap.size + 1) o sideBy
 have hb1f1 := fun o => hb1f (w.heap.size + 1) o sideBy
 have hb1l1 := below_lt (b := w.heap.size + 1) hb1 sideBy
 have hB1 : Below w.heap.size w w1 := by exact belowBy
 clear hb1
 go_wp2
 exact bodyPost_ret (v := .tuple #[.agg #[.slice none 0 0, .slice none 0 0], .slice none 0 0]) (by simp [results, Tryz.results84, go_sem, hb1c1, hb1f1]) rfl ⟨_, _, rfl, nil_line, nil_ids, by exact belowBy⟩

set_option maxRecDepth 100000 in
theorem lclear_yes (ns ws : List CmdS) (v : Value) (base : Nat) (w : World) (h : LineV w base ns ws v) (hr : lineB ns ws = true) :
  Calls Tryz.prog 84 #[v] w fun e w' => ClearPost w (ns ++ ws) e w' := by
 obtain ⟨a, b, rfl⟩ := h.form
 have HL := Lib.hid h
 have HR := Lib.hid hr
 have hlens : ns.length ≤ 1 ∧ ws.length ≤ 4 := ⟨(lineB_yes hr).1, (lineB_yes hr).2.1⟩
 clear h hr
 go_enter Tryz.func84, Tryz.ntmps84
 go_wp2_with fail
 refine (lright_at ns ws _ base true _ (HL.out.below ?b1) HR.out).mono ?_
 case b1 => exact belowBy
 rintro e w1 ⟨rfl, hb1⟩
 obtain ⟨hb1c, hb1f⟩ := bcell hb1
 have hb1z := hb1.size
 have hb1c0 := fun o => hb1c (w.heap.size) o sideBy
 have hb1f0 := fun o => hb1f (w.heap.size) o sideBy
 have hb1l0 := below_lt (b := w.heap.size) hb1 sideBy
 have hb1c1 := fun o => hb1c (w.heap.size + 1) o sideBy
 have hb1f1 := fun o => hb1f (w.heap.size + 1) o sideBy
 have hb1l1 := below_lt (b := w.heap.size + 1) hb1 sideBy
 have hB1 : Below w.heap.size w w1 := by exact belowBy
 clear hb1
 go_wp2_with fail
 refine (lall_at ns ws _ base _ (HL.out.below hB1) (by omega) (by omega)).mono ?_
 rintro e w2 ⟨⟨v2, rfl, ho2⟩, hb2⟩
 obtain ⟨hb2c, hb2f⟩ := bcell hb2
 have hb2z := hb2.size
 have hb2c0 := fun o => hb2c (w.heap.size) o sideBy
 have hb2f0 := fun o => hb2f (w.heap.size) o sideBy
 have hb2l0 := below_lt (b := w.heap.size) hb2 sideBy
 have hb2c1 := fun o => hb2c (w.heap.size + 1) o sideBy
 have hb2f1 := fun o => hb2f (w.heap.size + 1) o sideBy
 have hb2l1 := below_lt (b := w.heap.size + 1) hb2 sideBy
 have hB2 : Below w.heap.size w w2 := by exact belowBy
 have HR2 := Lib.hid (ReadC.of_own ho2)
 clear hb2 ho2
 go_wp2_with fail
 refine (lids_at (ns ++ ws) _ _ _ HR2.out (by rw [List.length_append]; omega)).mono ?_
 rintro e w3 ⟨⟨v3, rfl, ho3⟩, hb3⟩
 obtain ⟨hb3c, hb3f⟩ := bcell hb3
 have hb3z := hb3.size
 have hb3c0 := fun o => hb3c (w.heap.size) o sideBy
 have hb3f0 := fun o => hb3f (w.heap.size) o sideBy
 have hb3l0 := below_lt (b := w.heap.size) hb3 sideBy
 have hb3c1 := fun o => hb3c (w.heap.size + 1) o sideBy
 have hb3f1 := fun o => hb3f (w.heap.size + 1) o sideBy
 have hb3l1 := below_lt (b := w.heap.size + 1) hb3 sideBy
 have hB3 : Below w.heap.size w w3 := by exact belowBy
 have hz12 : w.heap.size + 2 ≤ w2.heap.size := by omega
 have HI : Hid (IdsV w3 (ns ++ ws) (w.heap.size + 2) v3) := Lib.hid (own_base ho3 hz12)
 clear hb3 ho3
 go_wp2
 have hlt : w.heap.size + 1 < w.heap.size + 2 := by omega
 refine bodyPost_ret (v := .tuple #[.agg #[.slice none 0 0, .slice none 0 0], v3]) (by simp [results, Tryz.results84, go_sem, hb1c1, hb1f1, hb2c1, hb2f1, hb3c1, hb3f1]) rfl ⟨_, _, rfl, nil_line, ?_, by exact belowBy⟩
 exact own_base ((HI.out.store (p := ⟨w.heap.size + 1, 0, none⟩) hlt _).store (p := ⟨w.heap.size + 1, 1, none⟩) hlt _) (by omega)

end Go.Proofs.YthhfnageadckkaaGreat

namespace Go.Proofs.YthhfnageadckkaaGreat
open Go.RowKit
attribute [local go_sem] ite_max ite_min vite_max vite_min ext_cell ext_frozen

def intsC (xs : List Int) : List Value := xs.map fun x => .int .i64 x
theorem Lies.num {w : World} {B n : Nat} {A : Option Addr} {xs : List Int} (h : Lies w B 1 A n (intsC xs)) (k : Nat) (hk : k < n) :
  ∃ b off x, A = some ⟨b, off, none⟩ ∧ b < B ∧ xs[k]? = some x ∧ w.cell? ⟨b, off + k, none⟩ = some (.int .i64 x) := by
 obtain ⟨b, off, e, hb, hc⟩ := h.2 (by omega)
 have hl : xs.length = n := by
  have := h.1
  rw [intsC, List.length_map] at this
  omega
 refine ⟨b, off, xs[k], e, hb, List.getElem?_eq_getElem (by omega), hc k _ ?_⟩
 rw [intsC, List.getElem?_map, List.getElem?_eq_getElem (by omega)]
 rfl
end Go.Proofs.YthhfnageadckkaaGreat

namespace Go.Proofs.YthhfnageadckkaaGreat
open Go.RowKit
attribute [local go_sem] ite_max ite_min vite_max vite_min ext_cell ext_frozen extS_cell extS_frozen

theorem own_nums {w : World} {base : Nat} {T : TypeId} {v : Value} {n : Nat} {xs : List Int} (h : w.ownsRow base T 1 v n (intsC xs)) :
  ∃ A c, v = .slice A n c ∧ n ≤ c ∧ c ≤ 9223372036854775807 ∧ Lies w w.heap.size 1 A n (intsC xs) := by
 obtain ⟨A, c, rfl, h1, h2, h3⟩ := own_form h
 unfold maxLen at h2
 exact ⟨A, c, rfl, h1, by omega, Lies.own h⟩


structure OpS where
 kind : Int
 mode : Int
def OpS.cells (x : OpS) : List Value := [.int .i64 x.kind, .int .i64 x.mode]

structure StL (w wr : World) (B : Nat) (ns ws : List CmdS) (A D : Option Addr) (n m c d : Nat) : Prop where
 bel : Below w.heap.size w wr
 lt : B < wr.heap.size
 c0 : wr.cell? ⟨B, 0, none⟩ = some (.slice A n c)
 c1 : wr.cell? ⟨B, 1, none⟩ = some (.slice D m d)
 fr : ∀ o, wr.frozen? ⟨B, o, none⟩ = false
 line : LineV wr (B + 1) ns ws (.agg #[.slice A n c, .slice D m d])
theorem StL.below {w wr wx : World} {B : Nat} {ns ws : List CmdS} {A D : Option Addr} {n m c d : Nat} (h : StL w wr B ns ws A D n m c d) (hb : Below wr.heap.size wr wx) : StL w wx B ns ws A D n m c d :=
 ⟨h.bel.trans (hb.mono h.bel.size), Nat.lt_of_lt_of_le h.lt hb.size, (hb.cell h.lt).trans h.c0, (hb.cell h.lt).trans h.c1, fun o => (hb.frozen h.lt).trans (h.fr o), h.line.below hb⟩
theorem IdsV.below {w w' : World} {xs : List CmdS} {base : Nat} {v : Value} (h : IdsV w xs base v) (hb : Below w.heap.size w w') : IdsV w' xs base v := owns_below h hb
theorem IdsV.base0 {w : World} {xs : List CmdS} {b b' : Nat} {v : Value} (h : IdsV w xs b v) (hb : b' ≤ b) : IdsV w xs b' v := own_base h hb
def OutV (w : World) (v : Value) (L g : Nat) : Prop :=
 ∃ I c is, v = .slice I L c ∧ L ≤ c ∧ c ≤ 9223372036854775807 ∧ Lies w w.heap.size 1 I L (intsC is) ∧ ∀ k, k < L → is[k]? = some ((g + k + 1 : Nat) : Int)
theorem OutV.nil {w : World} {g : Nat} : OutV w (.slice none 0 0) 0 g := ⟨none, 0, [], rfl, Nat.le_refl _, by omega, Lies.empty, fun k hk => absurd hk (by omega)⟩
theorem OutV.below {w w' : World} {v : Value} {L g : Nat} (h : OutV w v L g) (hb : Below w.heap.size w w') : OutV w' v L g := by
 obtain ⟨I, c, is, e, h1, h2, h3, h4⟩ := h
 exact ⟨I, c, is, e, h1, h2, h3.on hb, h4⟩

theorem modeB_no {m : Int} (h : modeB m = false) : m < 0 ∨ (0 ≤ m ∧ 5 < m) := by
 unfold modeB at h
 have := of_decide_eq_false h
 omega

theorem step_app {P : Program} {w : World} {ops : Array Oper} {o : Oper} {a : Act} {K : Act → World → Prop} {Q : Exit → Act → World → Prop} {E : Prop} (hgd : o.guard = none) (s x : Operand) (t : TypeId)
  (ho : o.op = .call { callee := .builtin .append, args := #[s, x], argTypes := #[t, t] })
  (base : Nat) (e : TypeId) (i : TypeInfo) (z : Value) (size bytes : Nat) (ht : P.underlying t = some (.slice e)) (hi : P.info? e = some i) (hz : i.zero = some z)
  (hsize : i.size = size) (hby : i.bytes = bytes) (hzs : z.cells.size = size) (hsz : 0 < size)
  (v : Value) (n : Nat) (xs : List Value) (hs : a.eval s = v) (hown : w.ownsRow base e size v n xs)
  (B : Nat) (A : Option Addr) (m c : Nat) (ys : List Value) (hx : a.eval x = .slice A m c) (hr : Lies w B size A m ys) (h1 : ∀ u ∈ ys, u.oneCell' = true)
  (h63 : n + m ≤ maxLen) (hbytes : (n + m) * bytes ≤ 140737488355328) (hbase : base ≤ w.heap.size)
  (h : ∀ A' c' w', w'.ownsRow base e size (.slice A' (n + m) c') (n + m) (xs ++ ys) → w.grownBy w' v.ownBlock → K (a.put o.dst (.slice A' (n + m) c')) w') :
  if Region.wanted o (yielded ops a.tmps) = true then Oper.wp P o a w K Q else E := by
 have hw : Region.wanted o (yielded ops a.tmps) = true := by simp [Region.wanted, hgd]
 rw [if_pos hw]
 obtain ⟨v', w', q1, q2, q3, q4⟩ := run_app (P := P) w base t o.type e i z size bytes ht hi hz hsize hby hzs hsz v n xs hown B A m c ys hr h1 h63 hbytes hbase
 obtain ⟨A', c', rfl, -⟩ := own_form q2
 exact Lib.wp_append_run w s x t t ho v (.slice A m c) hs hx _ w' q1 (h _ _ w' q2 q3)
theorem grown_cell {w w' : World} {base : Nat} {e : TypeId} {size : Nat} {v : Value} {n : Nat} {xs : List Value} (ho : w.ownsRow base e size v n xs) (hg : w.grownBy w' v.ownBlock) {p : Addr} (hp : p.block < base) (hb : base ≤ w.heap.size) : w'.cell? p = w.cell? p :=
 hg.cell_far p (Nat.lt_of_lt_of_le hp hb) (fun h => by have := (ho.lt _ h.symm).1; omega)
theorem own_none (w : World) (base H : Nat) (T : TypeId) (size : Nat) (hH : w.heap.size = H) (hb : base ≤ H) : (w.alloc (.cells #[] T)).ownsRow base T size (.slice (some ⟨H, 0, none⟩) 0 0) 0 [] := by
 subst hH
 exact World.ownsRow_made w #[] 0 hb (by unfold maxLen; omega) (by simp)

set_option maxRecDepth 100000 in
theorem rlist_at (ns ws : List CmdS) (v : Value) (base : Nat) (w : World) (h : LineV w base ns ws v) (hn : ns.length ≤ 400) (hm : ws.length ≤ 400) :
  Calls Tryz.prog 79 #[v] w fun e w' => RowC w w' (ns ++ ws).length (cmdsC (ns ++ ws)) e ∧ Below w.heap.size w w' := by
 obtain ⟨a, b, rfl, ⟨A, c, rfl, h1, h2, h3, _⟩, ⟨D, d, rfl, k1, k2, k3, _⟩⟩ := h
 obtain ⟨i0, hi0, hz0, hz1, hz2⟩ := info_parts cmd_info
 have HI := Lib.hid hi0
 have HZ0 := Lib.hid hz0
 have HZ1 := Lib.hid hz1
 have HZ2 := Lib.hid hz2
 have HX := Lib.hid h3
 have HY := Lib.hid k3
 rw [List.length_append, cmdsC_append]
 obtain ⟨n, hn'⟩ : ∃ n, ns.length = n := ⟨_, rfl⟩
 obtain ⟨m, hm'⟩ : ∃ m, ws.length = m := ⟨_, rfl⟩
 rw [hn'] at HX hn h1 ⊢
 rw [hm'] at HY hm k1 ⊢
 clear h3 k3 hn' hm' hi0 hz0 hz1 hz2
 go_enter Tryz.func79, Tryz.ntmps79
 go_wp2_with fail
 go_region_held3 (fun w' => w'.cell? ⟨w.heap.size, 0, none⟩ = some (.slice A n c) ∧ w'.cell? ⟨w.heap.size, 1, none⟩ = some (.slice D m d)) (go_keep)
  (first
   | (have o0 := (own_none (w.alloc (.cells #[.slice A n c, .slice D m d] 31)) (w.heap.size + 1) (w.heap.size + 1) 63 7 (by simp) (Nat.le_refl _)).drew; refine step_app rfl (.tmp 3) (.tmp 5) 29 rfl (w.heap.size + 1) 63 i0 (.agg #[.int .i64 0, .int .i64 0, .int .i64 0, .int .i64 0, .int .i64 0, .int .i64 0, .int .i64 0]) 7 56 Tryz.underlying29 HI.out HZ0.out HZ1.out HZ2.out rfl (by decide) (.slice (some ⟨w.heap.size + 1, 0, none⟩) 0 0) 0 [] rfl o0 w.heap.size A n c (cmdsC ns) rfl (HX.out.below (by exact belowBy)) (cmdsC_one _) (by unfold maxLen; omega) (by omega) (by simp) ?_; intro A1 c1 w1 ho1 hg1; simp only [Nat.zero_add, List.nil_append] at ho1 ⊢; (have z1 : w.heap.size + 2 ≤ w1.heap.size := (by have := hg1.size; simp at this; omega)); (have k0 : w1.cell? ⟨w.heap.size, 0, none⟩ = some (.slice A n c) := (grown_cell (p := ⟨w.heap.size, 0, none⟩) o0 hg1 (Nat.lt_succ_self _) (by simp)).trans (by go_simp)); (have k1 : w1.cell? ⟨w.heap.size, 1, none⟩ = some (.slice D m d) := (grown_cell (p := ⟨w.heap.size, 1, none⟩) o0 hg1 (Nat.lt_succ_self _) (by simp)).trans (by go_simp)); (have HB1 : Below w.heap.size w w1 := below_grown (by exact belowBy) hg1 o0 (Nat.le_succ _) (by simp; omega)); clear o0 hg1)
   | (refine step_app rfl (.tmp 6) (.tmp 8) 29 rfl (w.heap.size + 1) 63 i0 (.agg #[.int .i64 0, .int .i64 0, .int .i64 0, .int .i64 0, .int .i64 0, .int .i64 0, .int .i64 0]) 7 56 Tryz.underlying29 HI.out HZ0.out HZ1.out HZ2.out rfl (by decide) (.slice A1 n c1) n (cmdsC ns) rfl ho1 w.heap.size D m d (cmdsC ws) rfl (HY.out.below HB1) (cmdsC_one _) (by unfold maxLen; omega) (by omega) (by omega) ?_; intro A2 c2 w2 ho2 hg2; (have HB2 : Below w.heap.size w w2 := below_grown HB1 hg2 ho1 (Nat.le_succ _) (by omega)); (have k2 : w2.cell? ⟨w.heap.size, 0, none⟩ = some (.slice A n c) := (grown_cell (p := ⟨w.heap.size, 0, none⟩) ho1 hg2 (Nat.lt_succ_self _) (by omega)).trans k0); (have k3 : w2.cell? ⟨w.heap.size, 1, none⟩ = some (.slice D m d) := (grown_cell (p := ⟨w.heap.size, 1, none⟩) ho1 hg2 (Nat.lt_succ_self _) (by omega)).trans k1)))
 have HO := Lib.hid (own_base ho2 (Nat.le_succ w.heap.size))
 go_wp2
 go_ret
 exact ⟨⟨_, rfl, HO.out⟩, HB2⟩




set_option maxRecDepth 100000 in
theorem samelist_at (xs : List CmdS) (v u : Value) (b1 b2 : Nat) (w : World) (h : ReadC w xs.length (cmdsC xs) b1 v) (h' : ReadC w xs.length (cmdsC xs) b2 u) :
  Calls Tryz.prog 76 #[v, u] w fun e w' => e = .returned (.bool true) ∧ Below w.heap.size w w' := by
 obtain ⟨A, c, rfl, q1, q2, q3, -⟩ := h
 obtain ⟨D, d, rfl, p1, p2, p3, -⟩ := h'
 have HX := Lib.hid q3
 have HY := Lib.hid p3
 obtain ⟨n, hlen⟩ : ∃ n, xs.length = n := ⟨_, rfl⟩
 rw [hlen] at q1 p1 ⊢
 have HL := Lib.hid hlen
 clear q3 p3 hlen
 go_enter Tryz.func76, Tryz.ntmps76
 go_wp2_with fail
 go_loopw [5] (fun u wr => ∃ k : Nat, k ≤ n ∧ u = .int .i64 k ∧ Below w.heap.size w wr) (fun u _ => n - (intOf u).toNat)
 case atStart => exact ⟨0, by omega, rfl, Below.refl _ _⟩
 case round =>
  obtain ⟨k, hk, rfl, hbr⟩ := hrel
  by_cases hlt : k < n
  ·obtain ⟨b, off, x, rfl, hb, hxk, hcell⟩ := HX.out.cmd k (by rw [HL.out]; exact hlt)
   obtain ⟨b', off', y, rfl, hb', hyk, hcell'⟩ := HY.out.cmd k (by rw [HL.out]; exact hlt)
   obtain rfl : x = y := by rw [hxk] at hyk; exact Option.some.inj hyk
   have g0 := (hbr.cell (p := ⟨b, off + k * 7 + 0, none⟩) hb).trans (hcell 0 (by omega))
   have g1 := (hbr.cell (p := ⟨b, off + k * 7 + 1, none⟩) hb).trans (hcell 1 (by omega))
   have g2 := (hbr.cell (p := ⟨b, off + k * 7 + 2, none⟩) hb).trans (hcell 2 (by omega))
   have g3 := (hbr.cell (p := ⟨b, off + k * 7 + 3, none⟩) hb).trans (hcell 3 (by omega))
   have g4 := (hbr.cell (p := ⟨b, off + k * 7 + 4, none⟩) hb).trans (hcell 4 (by omega))
   have g5 := (hbr.cell (p := ⟨b, off + k * 7 + 5, none⟩) hb).trans (hcell 5 (by omega))
   have g6 := (hbr.cell (p := ⟨b, off + k * 7 + 6, none⟩) hb).trans (hcell 6 (by omega))
   have f0 := (hbr.cell (p := ⟨b', off' + k * 7 + 0, none⟩) hb').trans (hcell' 0 (by omega))
   have f1 := (hbr.cell (p := ⟨b', off' + k * 7 + 1, none⟩) hb').trans (hcell' 1 (by omega))
   have f2 := (hbr.cell (p := ⟨b', off' + k * 7 + 2, none⟩) hb').trans (hcell' 2 (by omega))
   have f3 := (hbr.cell (p := ⟨b', off' + k * 7 + 3, none⟩) hb').trans (hcell' 3 (by omega))
   have f4 := (hbr.cell (p := ⟨b', off' + k * 7 + 4, none⟩) hb').trans (hcell' 4 (by omega))
   have f5 := (hbr.cell (p := ⟨b', off' + k * 7 + 5, none⟩) hb').trans (hcell' 5 (by omega))
   have f6 := (hbr.cell (p := ⟨b', off' + k * 7 + 6, none⟩) hb').trans (hcell' 6 (by omega))
   obtain ⟨x0, x1, x2, x3, x4, x5, x6⟩ := x
   simp only [CmdS.cells, List.getElem?_cons_zero, List.getElem?_cons_succ, Nat.add_zero] at g0 g1 g2 g3 g4 g5 g6 f0 f1 f2 f3 f4 f5 f6
   have hk0 : (0 : Int) ≤ (k : Int) := by omega
   have hkn : (k : Int) < (n : Int) := by omega
   clear hcell hcell' hxk hyk
   go_wp2_with fail
   go_quiet (fail)
   go_wp2
   go_roundw
   case rel => exact ⟨k + 1, by omega, by go_num, by exact belowBy⟩
   case measure => simp [intOf]; omega
  ·obtain rfl : k = n := by omega
   go_wp2
   go_ret
   exact ⟨rfl, hbr⟩

set_option maxRecDepth 100000 in
theorem same_at (ns ws : List CmdS) (v u : Value) (b1 b2 : Nat) (w : World) (h : LineV w b1 ns ws v) (h' : LineV w b2 ns ws u) :
  Calls Tryz.prog 37 #[v, u] w fun e w' => e = .returned (.bool true) ∧ Below w.heap.size w w' := by
 obtain ⟨a1, a2, rfl, r1, r2⟩ := h
 obtain ⟨a3, a4, rfl, r3, r4⟩ := h'
 have H1 := Lib.hid r1
 have H2 := Lib.hid r2
 have H3 := Lib.hid r3
 have H4 := Lib.hid r4
 obtain ⟨A1, c1, rfl, -⟩ := r1
 obtain ⟨A2, c2, rfl, -⟩ := r2
 obtain ⟨A3, c3, rfl, -⟩ := r3
 obtain ⟨A4, c4, rfl, -⟩ := r4
 have HC1 := Lib.hid (fun (W : World) (hb : Below w.heap.size w W) => samelist_at ns _ _ _ _ W (H1.out.below hb) (H3.out.below hb))
 have HC2 := Lib.hid (fun (W : World) (hb : Below w.heap.size w W) => samelist_at ws _ _ _ _ W (H2.out.below hb) (H4.out.below hb))
 clear H1 H2 H3 H4
 generalize ns.length = n at *
 generalize ws.length = m at *
 go_enter Tryz.func37, Tryz.ntmps37
 go_wp2_with fail
 (with_reducible refine (HC1.out _ ?b1).mono ?_)
 case b1 => exact belowBy
 rintro e w1 ⟨rfl, hb1⟩
 obtain ⟨hb1c, hb1f⟩ := bcell hb1
 have hb1z := hb1.size
 have hb1c0 := fun o => hb1c (w.heap.size) o sideBy
 have hb1f0 := fun o => hb1f (w.heap.size) o sideBy
 have hb1l0 := below_lt (b := w.heap.size) hb1 sideBy
 have hb1c1 := fun o => hb1c (w.heap.size + 1) o sideBy
 have hb1f1 := fun o => hb1f (w.heap.size + 1) o sideBy
 have hb1l1 := below_lt (b := w.heap.size + 1) hb1 sideBy
 have hB1 : Below w.heap.size w w1 := by exact belowBy
 clear hb1
 go_wp2_with fail
 (with_reducible refine (HC2.out _ hB1).mono ?_)
 rintro e w2 ⟨rfl, hb2⟩
 go_wp2
 go_ret
 exact ⟨rfl, by exact belowBy⟩

def OfNow (wr : World) (B H : Nat) (xs : List CmdS) (a : Value) : Prop := ∃ A c, a = .slice A 1 c ∧ 1 ≤ c ∧ c ≤ 9223372036854775807 ∧ Lies wr H 7 A 1 (cmdsC (xs.take 1)) ∧ (∀ b o, A = some ⟨b, o, none⟩ → B ≤ b) ∧ B ≤ H ∧ H ≤ wr.heap.size
theorem OfNow.step {wr w' : World} {B H : Nat} {xs : List CmdS} {a : Value} (h : OfNow wr B H xs a) (hk : ∀ p : Addr, B ≤ p.block → p.block < H → w'.cell? p = wr.cell? p) (hs : H ≤ w'.heap.size) : OfNow w' B H xs a := by
 obtain ⟨A, c, rfl, h1, h2, h3, h4, h5, h6⟩ := h
 refine ⟨A, c, rfl, h1, h2, ⟨h3.1, fun hn => ?_⟩, h4, h5, hs⟩
 obtain ⟨b, off, e, hb, hc⟩ := h3.2 hn
 exact ⟨b, off, e, hb, fun j u hu => (hk ⟨b, off + j, none⟩ (h4 b off e) hb).trans (hc j u hu)⟩
end Go.Proofs.YthhfnageadckkaaGreat
