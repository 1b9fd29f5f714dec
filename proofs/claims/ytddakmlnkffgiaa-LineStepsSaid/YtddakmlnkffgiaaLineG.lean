/- Contracts of layer 12: a command is added, ends; all are cleared. -/
import Derived.Test.YtddakmlnkffgiaaLineF
import Derived.Deep.RegionHeld3
namespace Go.Proofs.Ytddakmlnkffgiaa
open Go.RowKit
set_option linter.unusedVariables false
set_option linter.unusedSimpArgs false
attribute [local go_sem] ite_max ite_min vite_max vite_min ext_cell ext_frozen extS_cell extS_frozen

theorem lmade_to (xs t1 t2 : List CmdS) (v : Value) (base : Nat) (w : World) (h : ReadC w xs.length (cmdsC xs) base v) (hn : xs.length ≤ 400) (h1 : xs.take 1 = t1) (h2 : xs.drop 1 = t2) :
    Calls Try.prog 55 #[v] w fun e w' => RetL w w' t1 t2 e ∧ Below w.heap.size w w' := by
  subst h1
  subst h2
  exact lmade_at xs v base w h hn

structure AddR where
  ns : List CmdS
  ws : List CmdS
  ids : List CmdS
  e : Int
/-- a command is added -/
def addR (ns ws : List CmdS) (x : CmdS) : AddR :=
  if (lineB ns ws && modeB x.mode) = false then ⟨[], [], [], 1⟩ else if x.mode = 0 then ⟨[x], [], ns ++ ws, 0⟩ else if ws.length = 4 then ⟨[], [], [], 8⟩ else ⟨(ns ++ ws ++ [x]).take 1, (ns ++ ws ++ [x]).drop 1, [], 0⟩

theorem ladd_at (ns ws : List CmdS) (v : Value) (base : Nat) (x : CmdS) (r : AddR) (w : World) (h : LineV w base ns ws v) (hr : addR ns ws x = r) :
    Calls Try.prog 28 #[v, x.val] w fun e w' => AddPost w r.ns r.ws r.ids r.e e w' := by
  subst hr
  unfold addR
  cases h1 : lineB ns ws
  · exact ladd_noline ns ws v base x w h h1
  · cases h2 : modeB x.mode
    · exact ladd_nomode ns ws v base x w h h1 h2
    · simp only [Bool.and_self, Bool.true_eq_false, if_false]
      by_cases h3 : x.mode = 0
      · rw [if_pos h3]
        exact ladd_abort ns ws v base x w h h1 h3
      · rw [if_neg h3]
        by_cases h4 : ws.length = 4
        · rw [if_pos h4]
          exact ladd_full ns ws v base x w h h1 h2 h3 h4
        · rw [if_neg h4]
          exact ladd_more ns ws v base x w h h1 h2 h3 h4

def EndPost (w : World) (ns ws : List CmdS) (id : Int) (e : Ending) (w' : World) : Prop := ∃ v, e = .returned (.tuple #[v, .int .i64 id]) ∧ LineV w' w.heap.size ns ws v ∧ Below w.heap.size w w'

set_option maxRecDepth 100000 in
set_option maxHeartbeats 1000000 in
theorem lend_noline (ns ws : List CmdS) (v : Value) (base : Nat) (w : World) (h : LineV w base ns ws v) (hr : lineB ns ws = false) :
    Calls Try.prog 29 #[v] w fun e w' => EndPost w [] [] 0 e w' := by
  obtain ⟨a, b, rfl⟩ := h.form
  have HL := Lib.hid h
  have HR := Lib.hid hr
  clear h hr
  go_enter Try.func29, Try.ntmps29
  go_wp2_with fail
  refine (lright_at ns ws _ base false _ (HL.out.below ?b1) HR.out).mono ?_
  case b1 => (repeat' (first | (with_reducible exact Below.refl _ _) | (with_reducible assumption) | (with_reducible refine below_drewN ?_ _) | (with_reducible refine Below.drew ?_) | (with_reducible refine below_new ?_ (Nat.le_refl _) _) | (with_reducible refine Below.setCell ?_ ?_ _) | (with_reducible refine below_go ?_ (by assumption) (Nat.le_refl _)) | (simp; done) | (simp; omega) | omega))
  rintro e w1 ⟨rfl, hb1⟩
  obtain ⟨hb1c, hb1f⟩ := bcell hb1
  have hb1z := hb1.size
  have hb1c0 := fun o => hb1c (w.heap.size) o (by first | (simp; done) | (simp; omega) | (simp at *; omega) | omega)
  have hb1f0 := fun o => hb1f (w.heap.size) o (by first | (simp; done) | (simp; omega) | (simp at *; omega) | omega)
  have hb1l0 := below_lt (b := w.heap.size) hb1 (by first | (simp; done) | (simp; omega) | (simp at *; omega) | omega)
  have hb1c1 := fun o => hb1c (w.heap.size + 1) o (by first | (simp; done) | (simp; omega) | (simp at *; omega) | omega)
  have hb1f1 := fun o => hb1f (w.heap.size + 1) o (by first | (simp; done) | (simp; omega) | (simp at *; omega) | omega)
  have hb1l1 := below_lt (b := w.heap.size + 1) hb1 (by first | (simp; done) | (simp; omega) | (simp at *; omega) | omega)
  have hB1 : Below w.heap.size w w1 := by (repeat' (first | (with_reducible exact Below.refl _ _) | (with_reducible assumption) | (with_reducible refine below_drewN ?_ _) | (with_reducible refine Below.drew ?_) | (with_reducible refine below_new ?_ (Nat.le_refl _) _) | (with_reducible refine Below.setCell ?_ ?_ _) | (with_reducible refine below_go ?_ (by assumption) (Nat.le_refl _)) | (simp; done) | (simp; omega) | omega))
  clear hb1
  go_wp2
  exact bodyPost_ret (v := .tuple #[.agg #[.slice none 0 0, .slice none 0 0], .int .i64 0]) (by simp [results, Try.results29, go_sem, hb1c1, hb1f1]) rfl ⟨_, rfl, nil_line, by (repeat' (first | (with_reducible exact Below.refl _ _) | (with_reducible assumption) | (with_reducible refine below_drewN ?_ _) | (with_reducible refine Below.drew ?_) | (with_reducible refine below_new ?_ (Nat.le_refl _) _) | (with_reducible refine Below.setCell ?_ ?_ _) | (with_reducible refine below_go ?_ (by assumption) (Nat.le_refl _)) | (simp; done) | (simp; omega) | omega))⟩

set_option maxRecDepth 100000 in
set_option maxHeartbeats 1000000 in
theorem lend_none (ws : List CmdS) (v : Value) (base : Nat) (w : World) (h : LineV w base [] ws v) (hr : lineB [] ws = true) :
    Calls Try.prog 29 #[v] w fun e w' => EndPost w [] [] 0 e w' := by
  have HL := Lib.hid h
  obtain ⟨a, b, rfl, ⟨A, c, rfl, q1, q2, -⟩, ⟨D, d, rfl, q3, q4, -⟩⟩ := h
  have HR := Lib.hid hr
  clear hr
  simp only [List.length_nil] at HL q1 ⊢
  go_enter Try.func29, Try.ntmps29
  go_wp2_with fail
  refine (lright_at [] ws _ base true _ (HL.out.below ?b1) HR.out).mono ?_
  case b1 => (repeat' (first | (with_reducible exact Below.refl _ _) | (with_reducible assumption) | (with_reducible refine below_drewN ?_ _) | (with_reducible refine Below.drew ?_) | (with_reducible refine below_new ?_ (Nat.le_refl _) _) | (with_reducible refine Below.setCell ?_ ?_ _) | (with_reducible refine below_go ?_ (by assumption) (Nat.le_refl _)) | (simp; done) | (simp; omega) | omega))
  rintro e w1 ⟨rfl, hb1⟩
  obtain ⟨hb1c, hb1f⟩ := bcell hb1
  have hb1z := hb1.size
  have hb1c0 := fun o => hb1c (w.heap.size) o (by first | (simp; done) | (simp; omega) | (simp at *; omega) | omega)
  have hb1f0 := fun o => hb1f (w.heap.size) o (by first | (simp; done) | (simp; omega) | (simp at *; omega) | omega)
  have hb1l0 := below_lt (b := w.heap.size) hb1 (by first | (simp; done) | (simp; omega) | (simp at *; omega) | omega)
  have hb1c1 := fun o => hb1c (w.heap.size + 1) o (by first | (simp; done) | (simp; omega) | (simp at *; omega) | omega)
  have hb1f1 := fun o => hb1f (w.heap.size + 1) o (by first | (simp; done) | (simp; omega) | (simp at *; omega) | omega)
  have hb1l1 := below_lt (b := w.heap.size + 1) hb1 (by first | (simp; done) | (simp; omega) | (simp at *; omega) | omega)
  have hB1 : Below w.heap.size w w1 := by (repeat' (first | (with_reducible exact Below.refl _ _) | (with_reducible assumption) | (with_reducible refine below_drewN ?_ _) | (with_reducible refine Below.drew ?_) | (with_reducible refine below_new ?_ (Nat.le_refl _) _) | (with_reducible refine Below.setCell ?_ ?_ _) | (with_reducible refine below_go ?_ (by assumption) (Nat.le_refl _)) | (simp; done) | (simp; omega) | omega))
  clear hb1
  go_wp2
  exact bodyPost_ret (v := .tuple #[.agg #[.slice none 0 0, .slice none 0 0], .int .i64 0]) (by simp [results, Try.results29, go_sem, hb1c1, hb1f1]) rfl ⟨_, rfl, nil_line, by (repeat' (first | (with_reducible exact Below.refl _ _) | (with_reducible assumption) | (with_reducible refine below_drewN ?_ _) | (with_reducible refine Below.drew ?_) | (with_reducible refine below_new ?_ (Nat.le_refl _) _) | (with_reducible refine Below.setCell ?_ ?_ _) | (with_reducible refine below_go ?_ (by assumption) (Nat.le_refl _)) | (simp; done) | (simp; omega) | omega))⟩

set_option maxRecDepth 100000 in
set_option maxHeartbeats 2000000 in
theorem lend_some (x : CmdS) (ws : List CmdS) (v : Value) (base : Nat) (w : World) (h : LineV w base [x] ws v) (hr : lineB [x] ws = true) :
    Calls Try.prog 29 #[v] w fun e w' => EndPost w (ws.take 1) (ws.drop 1) x.id e w' := by
  have HL := Lib.hid h
  have hlw : ws.length ≤ 4 := (lineB_yes hr).2.1
  obtain ⟨a, b, rfl, ⟨A, c, rfl, q1, q2, q3, -⟩, ⟨D, d, rfl, p1, p2, p3, -⟩⟩ := h
  obtain ⟨b, off, y, rfl, hb, hy, hcell⟩ := q3.cmd 0 (by simp)
  simp only [List.getElem?_cons_zero, Option.some.injEq] at hy
  subst hy
  have hc0 := hcell 0 (by omega)
  obtain ⟨x0, x1, x2, x3, x4, x5, x6⟩ := x
  simp only [CmdS.cells, List.getElem?_cons_zero, Nat.zero_mul, Nat.add_zero] at hc0
  have HR := Lib.hid hr
  have HY := Lib.hid p3
  clear hr hcell q3 p3
  simp only [List.length_cons, List.length_nil, Nat.zero_add] at HL q1 ⊢
  obtain ⟨m, hm⟩ : ∃ m, ws.length = m := ⟨_, rfl⟩
  rw [hm] at HL HY p1 hlw ⊢
  have HM := Lib.hid hm
  clear hm
  go_enter Try.func29, Try.ntmps29
  go_wp2_with fail
  refine (lright_at _ ws _ base true _ (HL.out.below ?b1) HR.out).mono ?_
  case b1 => (repeat' (first | (with_reducible exact Below.refl _ _) | (with_reducible assumption) | (with_reducible refine below_drewN ?_ _) | (with_reducible refine Below.drew ?_) | (with_reducible refine below_new ?_ (Nat.le_refl _) _) | (with_reducible refine Below.setCell ?_ ?_ _) | (with_reducible refine below_go ?_ (by assumption) (Nat.le_refl _)) | (simp; done) | (simp; omega) | omega))
  rintro e w1 ⟨rfl, hb1⟩
  obtain ⟨hb1c, hb1f⟩ := bcell hb1
  have hb1z := hb1.size
  have hb1c0 := fun o => hb1c (w.heap.size) o (by first | (simp; done) | (simp; omega) | (simp at *; omega) | omega)
  have hb1f0 := fun o => hb1f (w.heap.size) o (by first | (simp; done) | (simp; omega) | (simp at *; omega) | omega)
  have hb1l0 := below_lt (b := w.heap.size) hb1 (by first | (simp; done) | (simp; omega) | (simp at *; omega) | omega)
  have hb1c1 := fun o => hb1c (w.heap.size + 1) o (by first | (simp; done) | (simp; omega) | (simp at *; omega) | omega)
  have hb1f1 := fun o => hb1f (w.heap.size + 1) o (by first | (simp; done) | (simp; omega) | (simp at *; omega) | omega)
  have hb1l1 := below_lt (b := w.heap.size + 1) hb1 (by first | (simp; done) | (simp; omega) | (simp at *; omega) | omega)
  have hb1c2 := fun o => hb1c (b) o (by first | (simp; done) | (simp; omega) | (simp at *; omega) | omega)
  have hb1f2 := fun o => hb1f (b) o (by first | (simp; done) | (simp; omega) | (simp at *; omega) | omega)
  have hb1l2 := below_lt (b := b) hb1 (by first | (simp; done) | (simp; omega) | (simp at *; omega) | omega)
  have hB1 : Below w.heap.size w w1 := by (repeat' (first | (with_reducible exact Below.refl _ _) | (with_reducible assumption) | (with_reducible refine below_drewN ?_ _) | (with_reducible refine Below.drew ?_) | (with_reducible refine below_new ?_ (Nat.le_refl _) _) | (with_reducible refine Below.setCell ?_ ?_ _) | (with_reducible refine below_go ?_ (by assumption) (Nat.le_refl _)) | (simp; done) | (simp; omega) | omega))
  clear hb1
  have s0 : w1.cell? ⟨w.heap.size, 0, none⟩ = some (.slice (some ⟨b, off, none⟩) 1 c) := by go_simp
  have s1 : w1.cell? ⟨w.heap.size, 1, none⟩ = some (.slice D m d) := by go_simp
  have r0 : w1.cell? ⟨w.heap.size + 1, 0, none⟩ = some (.slice none 0 0) := by go_simp
  have r1 : w1.cell? ⟨w.heap.size + 1, 1, none⟩ = some (.slice none 0 0) := by go_simp
  have rf : ∀ o, w1.frozen? ⟨w.heap.size + 1, o, none⟩ = false := fun o => by go_simp
  have x0c : w1.cell? ⟨b, off, none⟩ = some (.int .i64 x0) := (hB1.cell (p := ⟨b, off, none⟩) hb).trans hc0
  have l0 : w.heap.size < w1.heap.size := by omega
  have l1 : w.heap.size + 1 < w1.heap.size := by omega
  have lb : b < w1.heap.size := by omega
  have HY1 : Hid (ReadC w1 ws.length (cmdsC ws) 0 (.slice D m d)) := Lib.hid ⟨D, d, by rw [HM.out], by rw [HM.out]; exact p1, p2, by rw [HM.out]; exact HY.out.on hB1, fun _ _ _ _ => Nat.zero_le _⟩
  have HB1 := Lib.hid hB1
  clear HL HY HR hb1c hb1f hb1z hb1c0 hb1c1 hb1c2 hb1f0 hb1f1 hb1f2 hb1l0 hb1l1 hb1l2 hB1 hc0
  have nb : ¬ b = w.heap.size + 1 := by omega
  have nb2 : ¬ w.heap.size + 1 = b := by omega
  have hz2 : w.heap.size + 2 ≤ w1.heap.size := by omega
  obtain ⟨t1, ht1⟩ : ∃ t, ws.take 1 = t := ⟨_, rfl⟩
  obtain ⟨t2, ht2⟩ : ∃ t, ws.drop 1 = t := ⟨_, rfl⟩
  have HT1 := Lib.hid ht1
  have HT2 := Lib.hid ht2
  clear ht1 ht2
  go_wp2_with fail
  go_region_held3 (fun w' => w'.cell? ⟨w.heap.size, 0, none⟩ = some (.slice (some ⟨b, off, none⟩) 1 c) ∧ w'.cell? ⟨w.heap.size, 1, none⟩ = some (.slice D m d) ∧ w'.cell? ⟨b, off, none⟩ = some (.int .i64 x0)) (go_keep)
    (first
      | (go_at_call 55; (with_reducible refine (lmade_to ws t1 t2 _ 0 _ (HY1.out.below ?bb) (by rw [HM.out]; omega) HT1.out HT2.out).mono ?_); (case bb => (repeat' (first | (with_reducible exact Below.refl _ _) | (with_reducible assumption) | (with_reducible refine below_drewN ?_ _) | (with_reducible refine Below.drew ?_) | (with_reducible refine below_new ?_ (Nat.le_refl _) _) | (with_reducible refine Below.setCell ?_ ?_ _) | (with_reducible refine below_go ?_ (by assumption) (Nat.le_refl _)) | (simp; done) | (simp; omega) | omega))); rintro e w6 ⟨⟨v6, rfl, hl6⟩, hb6⟩; have hb16 : Below w1.heap.size w1 w6 := (by (repeat' (first | (with_reducible exact Below.refl _ _) | (with_reducible assumption) | (with_reducible refine below_drewN ?_ _) | (with_reducible refine Below.drew ?_) | (with_reducible refine below_new ?_ (Nat.le_refl _) _) | (with_reducible refine Below.setCell ?_ ?_ _) | (with_reducible refine below_go ?_ (by assumption) (Nat.le_refl _)) | (simp; done) | (simp; omega) | omega))); obtain ⟨a6, b6, rfl, ⟨A6, c6, rfl, ka, ma, la, fa⟩, ⟨D6, d6, rfl, kd, md, ld, fd⟩⟩ := hl6; have k0 := (hb16.cell (p := ⟨w.heap.size, 0, none⟩) l0).trans s0; have k1 := (hb16.cell (p := ⟨w.heap.size, 1, none⟩) l0).trans s1; have kb := (hb16.cell (p := ⟨b, off, none⟩) lb).trans x0c; have j0 := (hb16.cell (p := ⟨w.heap.size + 1, 0, none⟩) l1).trans r0; have j1 := (hb16.cell (p := ⟨w.heap.size + 1, 1, none⟩) l1).trans r1; have jf := fun o => (hb16.frozen (p := ⟨w.heap.size + 1, o, none⟩) l1).trans (rf o)))
  all_goals
    have hll : LineV w6 w1.heap.size t1 t2 (.agg #[.slice A6 _ c6, .slice D6 _ d6]) := ⟨_, _, rfl, ⟨A6, c6, rfl, ka, ma, la, fa⟩, ⟨D6, d6, rfl, kd, md, ld, fd⟩⟩
    have HLL := Lib.hid hll
    have hl6 := hb16.size
    have hB6 : Below w.heap.size w w6 := HB1.out.trans (hb16.mono (by omega))
    clear hll ka ma la fa kd md ld fd hb6 hb16
    go_wp2
    refine bodyPost_ret (v := .tuple #[.agg #[.slice A6 t1.length c6, .slice D6 t2.length d6], .int .i64 x0]) ?_ rfl ?_
    · simp [results, Try.results29, go_sem, j0, j1, jf]
    · rw [HT1.out, HT2.out]
      exact ⟨_, rfl, ((HLL.out.store (p := ⟨w.heap.size + 1, 0, none⟩) l1 _).store (p := ⟨w.heap.size + 1, 1, none⟩) l1 _).base0 (by omega), by (repeat' (first | (with_reducible exact Below.refl _ _) | (with_reducible assumption) | (with_reducible refine below_drewN ?_ _) | (with_reducible refine Below.drew ?_) | (with_reducible refine below_new ?_ (Nat.le_refl _) _) | (with_reducible refine Below.setCell ?_ ?_ _) | (with_reducible refine below_go ?_ (by assumption) (Nat.le_refl _)) | (simp; done) | (simp; omega) | omega))⟩

def ClearPost (w : World) (ids : List CmdS) (e : Ending) (w' : World) : Prop := ∃ v i, e = .returned (.tuple #[v, i]) ∧ LineV w' w.heap.size [] [] v ∧ IdsV w' ids w.heap.size i ∧ Below w.heap.size w w'

set_option maxRecDepth 100000 in
set_option maxHeartbeats 1000000 in
theorem lclear_noline (ns ws : List CmdS) (v : Value) (base : Nat) (w : World) (h : LineV w base ns ws v) (hr : lineB ns ws = false) :
    Calls Try.prog 30 #[v] w fun e w' => ClearPost w [] e w' := by
  obtain ⟨a, b, rfl⟩ := h.form
  have HL := Lib.hid h
  have HR := Lib.hid hr
  clear h hr
  go_enter Try.func30, Try.ntmps30
  go_wp2_with fail
  refine (lright_at ns ws _ base false _ (HL.out.below ?b1) HR.out).mono ?_
  case b1 => (repeat' (first | (with_reducible exact Below.refl _ _) | (with_reducible assumption) | (with_reducible refine below_drewN ?_ _) | (with_reducible refine Below.drew ?_) | (with_reducible refine below_new ?_ (Nat.le_refl _) _) | (with_reducible refine Below.setCell ?_ ?_ _) | (with_reducible refine below_go ?_ (by assumption) (Nat.le_refl _)) | (simp; done) | (simp; omega) | omega))
  rintro e w1 ⟨rfl, hb1⟩
  obtain ⟨hb1c, hb1f⟩ := bcell hb1
  have hb1z := hb1.size
  have hb1c0 := fun o => hb1c (w.heap.size) o (by first | (simp; done) | (simp; omega) | (simp at *; omega) | omega)
  have hb1f0 := fun o => hb1f (w.heap.size) o (by first | (simp; done) | (simp; omega) | (simp at *; omega) | omega)
  have hb1l0 := below_lt (b := w.heap.size) hb1 (by first | (simp; done) | (simp; omega) | (simp at *; omega) | omega)
  have hb1c1 := fun o => hb1c (w.heap.size + 1) o (by first | (simp; done) | (simp; omega) | (simp at *; omega) | omega)
  have hb1f1 := fun o => hb1f (w.heap.size + 1) o (by first | (simp; done) | (simp; omega) | (simp at *; omega) | omega)
  have hb1l1 := below_lt (b := w.heap.size + 1) hb1 (by first | (simp; done) | (simp; omega) | (simp at *; omega) | omega)
  have hB1 : Below w.heap.size w w1 := by (repeat' (first | (with_reducible exact Below.refl _ _) | (with_reducible assumption) | (with_reducible refine below_drewN ?_ _) | (with_reducible refine Below.drew ?_) | (with_reducible refine below_new ?_ (Nat.le_refl _) _) | (with_reducible refine Below.setCell ?_ ?_ _) | (with_reducible refine below_go ?_ (by assumption) (Nat.le_refl _)) | (simp; done) | (simp; omega) | omega))
  clear hb1
  go_wp2
  exact bodyPost_ret (v := .tuple #[.agg #[.slice none 0 0, .slice none 0 0], .slice none 0 0]) (by simp [results, Try.results30, go_sem, hb1c1, hb1f1]) rfl ⟨_, _, rfl, nil_line, nil_ids, by (repeat' (first | (with_reducible exact Below.refl _ _) | (with_reducible assumption) | (with_reducible refine below_drewN ?_ _) | (with_reducible refine Below.drew ?_) | (with_reducible refine below_new ?_ (Nat.le_refl _) _) | (with_reducible refine Below.setCell ?_ ?_ _) | (with_reducible refine below_go ?_ (by assumption) (Nat.le_refl _)) | (simp; done) | (simp; omega) | omega))⟩

set_option maxRecDepth 100000 in
set_option maxHeartbeats 1000000 in
theorem lclear_yes (ns ws : List CmdS) (v : Value) (base : Nat) (w : World) (h : LineV w base ns ws v) (hr : lineB ns ws = true) :
    Calls Try.prog 30 #[v] w fun e w' => ClearPost w (ns ++ ws) e w' := by
  obtain ⟨a, b, rfl⟩ := h.form
  have HL := Lib.hid h
  have HR := Lib.hid hr
  have hlens : ns.length ≤ 1 ∧ ws.length ≤ 4 := ⟨(lineB_yes hr).1, (lineB_yes hr).2.1⟩
  clear h hr
  go_enter Try.func30, Try.ntmps30
  go_wp2_with fail
  refine (lright_at ns ws _ base true _ (HL.out.below ?b1) HR.out).mono ?_
  case b1 => (repeat' (first | (with_reducible exact Below.refl _ _) | (with_reducible assumption) | (with_reducible refine below_drewN ?_ _) | (with_reducible refine Below.drew ?_) | (with_reducible refine below_new ?_ (Nat.le_refl _) _) | (with_reducible refine Below.setCell ?_ ?_ _) | (with_reducible refine below_go ?_ (by assumption) (Nat.le_refl _)) | (simp; done) | (simp; omega) | omega))
  rintro e w1 ⟨rfl, hb1⟩
  obtain ⟨hb1c, hb1f⟩ := bcell hb1
  have hb1z := hb1.size
  have hb1c0 := fun o => hb1c (w.heap.size) o (by first | (simp; done) | (simp; omega) | (simp at *; omega) | omega)
  have hb1f0 := fun o => hb1f (w.heap.size) o (by first | (simp; done) | (simp; omega) | (simp at *; omega) | omega)
  have hb1l0 := below_lt (b := w.heap.size) hb1 (by first | (simp; done) | (simp; omega) | (simp at *; omega) | omega)
  have hb1c1 := fun o => hb1c (w.heap.size + 1) o (by first | (simp; done) | (simp; omega) | (simp at *; omega) | omega)
  have hb1f1 := fun o => hb1f (w.heap.size + 1) o (by first | (simp; done) | (simp; omega) | (simp at *; omega) | omega)
  have hb1l1 := below_lt (b := w.heap.size + 1) hb1 (by first | (simp; done) | (simp; omega) | (simp at *; omega) | omega)
  have hB1 : Below w.heap.size w w1 := by (repeat' (first | (with_reducible exact Below.refl _ _) | (with_reducible assumption) | (with_reducible refine below_drewN ?_ _) | (with_reducible refine Below.drew ?_) | (with_reducible refine below_new ?_ (Nat.le_refl _) _) | (with_reducible refine Below.setCell ?_ ?_ _) | (with_reducible refine below_go ?_ (by assumption) (Nat.le_refl _)) | (simp; done) | (simp; omega) | omega))
  clear hb1
  go_wp2_with fail
  refine (lall_at ns ws _ base _ (HL.out.below hB1) (by omega) (by omega)).mono ?_
  rintro e w2 ⟨⟨v2, rfl, ho2⟩, hb2⟩
  obtain ⟨hb2c, hb2f⟩ := bcell hb2
  have hb2z := hb2.size
  have hb2c0 := fun o => hb2c (w.heap.size) o (by first | (simp; done) | (simp; omega) | (simp at *; omega) | omega)
  have hb2f0 := fun o => hb2f (w.heap.size) o (by first | (simp; done) | (simp; omega) | (simp at *; omega) | omega)
  have hb2l0 := below_lt (b := w.heap.size) hb2 (by first | (simp; done) | (simp; omega) | (simp at *; omega) | omega)
  have hb2c1 := fun o => hb2c (w.heap.size + 1) o (by first | (simp; done) | (simp; omega) | (simp at *; omega) | omega)
  have hb2f1 := fun o => hb2f (w.heap.size + 1) o (by first | (simp; done) | (simp; omega) | (simp at *; omega) | omega)
  have hb2l1 := below_lt (b := w.heap.size + 1) hb2 (by first | (simp; done) | (simp; omega) | (simp at *; omega) | omega)
  have hB2 : Below w.heap.size w w2 := by (repeat' (first | (with_reducible exact Below.refl _ _) | (with_reducible assumption) | (with_reducible refine below_drewN ?_ _) | (with_reducible refine Below.drew ?_) | (with_reducible refine below_new ?_ (Nat.le_refl _) _) | (with_reducible refine Below.setCell ?_ ?_ _) | (with_reducible refine below_go ?_ (by assumption) (Nat.le_refl _)) | (simp; done) | (simp; omega) | omega))
  have HR2 := Lib.hid (ReadC.of_own ho2)
  clear hb2 ho2
  go_wp2_with fail
  refine (lids_at (ns ++ ws) _ _ _ HR2.out (by rw [List.length_append]; omega)).mono ?_
  rintro e w3 ⟨⟨v3, rfl, ho3⟩, hb3⟩
  obtain ⟨hb3c, hb3f⟩ := bcell hb3
  have hb3z := hb3.size
  have hb3c0 := fun o => hb3c (w.heap.size) o (by first | (simp; done) | (simp; omega) | (simp at *; omega) | omega)
  have hb3f0 := fun o => hb3f (w.heap.size) o (by first | (simp; done) | (simp; omega) | (simp at *; omega) | omega)
  have hb3l0 := below_lt (b := w.heap.size) hb3 (by first | (simp; done) | (simp; omega) | (simp at *; omega) | omega)
  have hb3c1 := fun o => hb3c (w.heap.size + 1) o (by first | (simp; done) | (simp; omega) | (simp at *; omega) | omega)
  have hb3f1 := fun o => hb3f (w.heap.size + 1) o (by first | (simp; done) | (simp; omega) | (simp at *; omega) | omega)
  have hb3l1 := below_lt (b := w.heap.size + 1) hb3 (by first | (simp; done) | (simp; omega) | (simp at *; omega) | omega)
  have hB3 : Below w.heap.size w w3 := by (repeat' (first | (with_reducible exact Below.refl _ _) | (with_reducible assumption) | (with_reducible refine below_drewN ?_ _) | (with_reducible refine Below.drew ?_) | (with_reducible refine below_new ?_ (Nat.le_refl _) _) | (with_reducible refine Below.setCell ?_ ?_ _) | (with_reducible refine below_go ?_ (by assumption) (Nat.le_refl _)) | (simp; done) | (simp; omega) | omega))
  have hz12 : w.heap.size + 2 ≤ w2.heap.size := by omega
  have HI : Hid (IdsV w3 (ns ++ ws) (w.heap.size + 2) v3) := Lib.hid (own_base ho3 hz12)
  clear hb3 ho3
  go_wp2
  have hlt : w.heap.size + 1 < w.heap.size + 2 := by omega
  refine bodyPost_ret (v := .tuple #[.agg #[.slice none 0 0, .slice none 0 0], v3]) (by simp [results, Try.results30, go_sem, hb1c1, hb1f1, hb2c1, hb2f1, hb3c1, hb3f1]) rfl ⟨_, _, rfl, nil_line, ?_, by (repeat' (first | (with_reducible exact Below.refl _ _) | (with_reducible assumption) | (with_reducible refine below_drewN ?_ _) | (with_reducible refine Below.drew ?_) | (with_reducible refine below_new ?_ (Nat.le_refl _) _) | (with_reducible refine Below.setCell ?_ ?_ _) | (with_reducible refine below_go ?_ (by assumption) (Nat.le_refl _)) | (simp; done) | (simp; omega) | omega))⟩
  exact own_base ((HI.out.store (p := ⟨w.heap.size + 1, 0, none⟩) hlt _).store (p := ⟨w.heap.size + 1, 1, none⟩) hlt _) (by omega)

end Go.Proofs.Ytddakmlnkffgiaa
