/- Merged: Contracts of layer 12: all commands, their IDs, a line of some commands. Contracts of layer 12: a line of some commands. -/
import Derived.Test.YthhfnageadckkaaGreatM09
import Derived.Test.YthhfnageadckkaaGreatWild
set_option linter.unusedVariables false
set_option linter.unusedSimpArgs false
set_option maxHeartbeats 2000000
namespace Go.Proofs.YthhfnageadckkaaGreat
open Go.RowKit
attribute [local go_sem] ite_max ite_min vite_max vite_min ext_cell ext_frozen extS_cell extS_frozen

theorem ReadC.below {w w' : World} {n base : Nat} {xs : List Value} {v : Value} (h : ReadC w n xs base v) (hb : Below w.heap.size w w') : ReadC w' n xs base v := by
 obtain ⟨A, c, rfl, h1, h2, h3, h4⟩ := h
 exact ⟨A, c, rfl, h1, h2, h3.on hb, h4⟩
theorem ReadC.store {w : World} {n base : Nat} {xs : List Value} {v : Value} (h : ReadC w n xs base v) {p : Addr} (hp : p.block < base) (u : Value) : ReadC (w.setCell p u) n xs base v := by
 obtain ⟨A, c, rfl, h1, h2, h3, h4⟩ := h
 refine ⟨A, c, rfl, h1, h2, ⟨h3.1, fun hn => ?_⟩, h4⟩
 obtain ⟨b, off, e, hb, hc⟩ := h3.2 hn
 have := h4 b off hn e
 refine ⟨b, off, e, by simpa [World.setCell] using hb, fun j u' hu => ?_⟩
 rw [World.cell?_setCell_other w p ⟨b, off + j, none⟩ u (fun he => by subst he; simp only at hp; omega)]
 exact hc j u' hu
theorem ReadC.base0 {w : World} {n base b' : Nat} {xs : List Value} {v : Value} (h : ReadC w n xs base v) (hb : b' ≤ base) : ReadC w n xs b' v := by
 obtain ⟨A, c, rfl, h1, h2, h3, h4⟩ := h
 exact ⟨A, c, rfl, h1, h2, h3, fun b o hn e => Nat.le_trans hb (h4 b o hn e)⟩
def LineV (w : World) (base : Nat) (ns ws : List CmdS) (v : Value) : Prop := ∃ a b, v = .agg #[a, b] ∧ ReadC w ns.length (cmdsC ns) base a ∧ ReadC w ws.length (cmdsC ws) base b
theorem LineV.below {w w' : World} {base : Nat} {ns ws : List CmdS} {v : Value} (h : LineV w base ns ws v) (hb : Below w.heap.size w w') : LineV w' base ns ws v := by
 obtain ⟨a, b, e, h1, h2⟩ := h
 exact ⟨a, b, e, h1.below hb, h2.below hb⟩
theorem LineV.store {w : World} {base : Nat} {ns ws : List CmdS} {v : Value} (h : LineV w base ns ws v) {p : Addr} (hp : p.block < base) (u : Value) : LineV (w.setCell p u) base ns ws v := by
 obtain ⟨a, b, e, h1, h2⟩ := h
 exact ⟨a, b, e, h1.store hp u, h2.store hp u⟩
theorem LineV.base0 {w : World} {base b' : Nat} {ns ws : List CmdS} {v : Value} (h : LineV w base ns ws v) (hb : b' ≤ base) : LineV w b' ns ws v := by
 obtain ⟨x, y, e, h1, h2⟩ := h
 exact ⟨x, y, e, h1.base0 hb, h2.base0 hb⟩

theorem lright_at (ns ws : List CmdS) (v : Value) (base : Nat) (r : Bool) (w : World) (h : LineV w base ns ws v) (hr : lineB ns ws = r) :
  Calls Tryz.prog 27 #[v] w fun e w' => e = .returned (.bool r) ∧ Below w.heap.size w w' := by
 obtain ⟨a, b, rfl, ⟨A, c, rfl, h1, h2, h3, _⟩, ⟨D, d, rfl, k1, k2, k3, _⟩⟩ := h
 exact line_right A D c d ns ws r w ⟨h1, h2⟩ ⟨k1, k2⟩ h3 k3 hr

set_option maxRecDepth 100000 in
theorem lall_at (ns ws : List CmdS) (v : Value) (base : Nat) (w : World) (h : LineV w base ns ws v) (hn : ns.length ≤ 400) (hm : ws.length ≤ 400) :
  Calls Tryz.prog 94 #[v] w fun e w' => RowC w w' (ns ++ ws).length (cmdsC (ns ++ ws)) e ∧ Below w.heap.size w w' := by
 obtain ⟨a, b, rfl, ⟨A, c, rfl, h1, h2, h3, _⟩, ⟨D, d, rfl, k1, k2, k3, _⟩⟩ := h
 have HX := Lib.hid h3
 have HY := Lib.hid k3
 rw [List.length_append, cmdsC_append]
 obtain ⟨n, hn'⟩ : ∃ n, ns.length = n := ⟨_, rfl⟩
 obtain ⟨m, hm'⟩ : ∃ m, ws.length = m := ⟨_, rfl⟩
 rw [hn'] at HX hn h1 ⊢
 rw [hm'] at HY hm k1 ⊢
 clear h3 k3 hn' hm'
 go_enter Tryz.func94, Tryz.ntmps94
 go_wp2_with fail
 refine (concat_cmd A D _ _ c d _ (cmdsC ns) (cmdsC ws) _ (by omega) (by omega) ?a1 ?a2 ?a3 (HX.out.on ?a4) (HY.out.on ?a5) (cmdsC_one _) (cmdsC_one _)).mono ?_
 case a1 => simp
 case a2 => go_simp
 case a3 => go_simp
 case a4 => exact ((Below.refl _ _).alloc (Nat.le_refl _) _).alloc (by simp) _
 case a5 => exact ((Below.refl _ _).alloc (Nat.le_refl _) _).alloc (by simp) _
 rintro e w1 ⟨⟨v, rfl, hown⟩, hb1⟩
 have HO : Hid (w1.ownsRow w.heap.size 63 7 v (n + m) (cmdsC ns ++ cmdsC ws)) := Lib.hid (by
  rcases hown with ⟨q1, q2⟩
  refine ⟨q1, ?_⟩
  rcases q2 with q2 | ⟨g, cap, cur, e1, e2, e3⟩
  ·exact .inl q2
  ·exact .inr ⟨g, cap, cur, e1, by simp at e2; omega, e3⟩)
 clear hown
 go_wp2
 go_ret
 exact ⟨⟨_, rfl, HO.out⟩, by exact belowBy⟩

def idsC (xs : List CmdS) : List Value := xs.map fun x => .int .i64 x.id
def RowI (w w' : World) (xs : List CmdS) (e : Ending) : Prop := ∃ v, e = .returned v ∧ w'.ownsRow w.heap.size 3 1 v xs.length (idsC xs)

theorem idsC_take (xs : List CmdS) (k : Nat) (x : CmdS) (h : xs[k]? = some x) : idsC (xs.take (k + 1)) = idsC (xs.take k) ++ [.int .i64 x.id] := by
 have hk : k < xs.length := (List.getElem?_eq_some_iff.1 h).1
 rw [List.take_succ_eq_append_getElem hk]
 have : xs[k] = x := by
  rw [List.getElem?_eq_getElem hk] at h
  exact Option.some.inj h
 rw [this]
 simp [idsC]

set_option maxRecDepth 100000 in
theorem lids_at (xs : List CmdS) (v : Value) (base : Nat) (w : World) (h : ReadC w xs.length (cmdsC xs) base v) (hn : xs.length ≤ 800) :
  Calls Tryz.prog 93 #[v] w fun e w' => RowI w w' xs e ∧ Below w.heap.size w w' := by
 obtain ⟨A, c, rfl, h1, h2, h3, -⟩ := h
 have hinf : (Tryz.prog.info? 3).map (fun i => (i.zero, i.size, i.bytes)) = some (some (.int .i64 0), 1, 8) := by kernel_rfl
 obtain ⟨i0, hi0, hz0, hz1, hz2⟩ := info_parts hinf
 have HI := Lib.hid hi0
 have HZ0 := Lib.hid hz0
 have HZ1 := Lib.hid hz1
 have HZ2 := Lib.hid hz2
 have HX := Lib.hid h3
 obtain ⟨n, hlen⟩ : ∃ n, xs.length = n := ⟨_, rfl⟩
 have hfin : Hid (∀ w' v, w'.ownsRow w.heap.size 3 1 v n (idsC (xs.take n)) → RowI w w' xs (.returned v)) := Lib.hid (fun w' v ho => by
  rw [List.take_of_length_le (by omega)] at ho
  exact ⟨v, rfl, by rw [hlen]; exact ho⟩)
 rw [hlen] at hn h1 ⊢
 have HL := Lib.hid hlen
 clear h3 hlen hinf hi0 hz0 hz1 hz2
 go_enter Tryz.func93, Tryz.ntmps93
 go_wp2_with fail
 go_loopw [3, 8] (fun v u wr => ∃ (k : Nat) (v' : Value), v' = v ∧ k ≤ n ∧ u = .int .i64 k ∧ Hid (wr.ownsRow w.heap.size 3 1 v' k (idsC (xs.take k))) ∧ Below w.heap.size w wr) (fun _ u _ => n - (intOf u).toNat)
 case atStart => exact ⟨0, _, rfl, by omega, rfl, Lib.hid (World.ownsRow_nil _ _ _ _), Below.refl _ _⟩
 case round =>
  obtain ⟨k, v', rfl, hk, rfl, HO, hbr⟩ := hrel
  by_cases hlt : k < n
  ·obtain ⟨b, off, x, rfl, hb, hxk, hcell⟩ := HX.out.cmd k (by rw [HL.out]; exact hlt)
   have hsucc := idsC_take xs k x hxk
   have g0 := (hbr.cell (p := ⟨b, off + k * 7 + 0, none⟩) hb).trans (hcell 0 (by omega))
   have g1 := (hbr.cell (p := ⟨b, off + k * 7 + 1, none⟩) hb).trans (hcell 1 (by omega))
   have g2 := (hbr.cell (p := ⟨b, off + k * 7 + 2, none⟩) hb).trans (hcell 2 (by omega))
   have g3 := (hbr.cell (p := ⟨b, off + k * 7 + 3, none⟩) hb).trans (hcell 3 (by omega))
   have g4 := (hbr.cell (p := ⟨b, off + k * 7 + 4, none⟩) hb).trans (hcell 4 (by omega))
   have g5 := (hbr.cell (p := ⟨b, off + k * 7 + 5, none⟩) hb).trans (hcell 5 (by omega))
   have g6 := (hbr.cell (p := ⟨b, off + k * 7 + 6, none⟩) hb).trans (hcell 6 (by omega))
   obtain ⟨x0, x1, x2, x3, x4, x5, x6⟩ := x
   simp only [CmdS.cells, List.getElem?_cons_zero, List.getElem?_cons_succ, Nat.add_zero] at g0 g1 g2 g3 g4 g5 g6
   have hk0 : (0 : Int) ≤ (k : Int) := by omega
   have hkn : (k : Int) < (n : Int) := by omega
   have HS := Lib.hid hsucc
   have hbs := hbr.size
   clear hcell hxk hsucc
   go_wp2_with (at_builtin; refine wpList_append_own _ rfl _ _ 96 rfl w.heap.size 3 i0 (.int .i64 0) 1 8 Tryz.underlying96 HI.out HZ0.out HZ1.out HZ2.out rfl (by decide) _ k _ rfl ((HO.out.alloc _).alloc _) ⟨wr.heap.size + 1, 0, none⟩ 1 1 [.int .i64 x0] rfl rfl ?c4 (one_cell _ rfl) ?c1 ?c2 ?c3 ?_)
   case c1 => unfold maxLen; omega
   case c2 => omega
   case c3 => omega
   intro v2 w2 hown2 hgrow _
   have HO2 : Hid (w2.ownsRow w.heap.size 3 1 v2 (k + 1) (idsC (xs.take (k + 1)))) := Lib.hid (by rw [HS.out]; exact hown2)
   have hb2 : Below w.heap.size w w2 := below_grown (below_new (below_new hbr (Nat.le_refl _) _) (Nat.le_refl _) _) hgrow ((HO.out.alloc _).alloc _) (Nat.le_refl _) (by simp; omega)
   clear hown2 hgrow HO g0 g1 g2 g3 g4 g5 g6
   go_wp2
   go_roundw
   case rel => exact ⟨k + 1, _, rfl, by omega, by go_num, HO2, hb2⟩
   case measure => simp [intOf]; omega
  ·obtain rfl : k = n := by omega
   go_wp2
   go_ret
   exact ⟨hfin.out _ _ HO.out, hbr⟩

def isReadC (n : Nat) (xs : List Value) (base : Nat) (v : Value) (w : World) : Prop := ReadC w n xs base v
theorem isReadC.below {n : Nat} {xs : List Value} {base : Nat} {v : Value} {w w' : World} (h : isReadC n xs base v w) (hb : Below w.heap.size w w') : isReadC n xs base v w' := ReadC.below h hb

theorem Lies.head {w : World} {B : Nat} {A : Option Addr} {x : CmdS} {xs : List CmdS} {n : Nat} (h : Lies w B 7 A n (cmdsC (x :: xs))) : Lies w B 7 A 1 (cmdsC [x]) := by
 have hn : n = xs.length + 1 := by
  have := h.1
  rw [cmdsC_len, List.length_cons] at this
  omega
 refine ⟨by rw [cmdsC_len]; rfl, fun _ => ?_⟩
 obtain ⟨b, off, e, hb, hc⟩ := h.2 (by omega)
 refine ⟨b, off, e, hb, fun j u hu => hc j u ?_⟩
 have hj : j < (cmdsC [x]).length := (List.getElem?_eq_some_iff.1 hu).1
 rw [show x :: xs = [x] ++ xs from rfl, cmdsC_append, List.getElem?_append_left hj]
 exact hu
theorem Lies.tail {w : World} {B : Nat} {b off : Nat} {x : CmdS} {xs : List CmdS} {n : Nat} (h : Lies w B 7 (some ⟨b, off, none⟩) n (cmdsC (x :: xs))) : Lies w B 7 (some ⟨b, off + 7, none⟩) (n - 1) (cmdsC xs) := by
 have hn : n = xs.length + 1 := by
  have := h.1
  rw [cmdsC_len, List.length_cons] at this
  omega
 refine ⟨by rw [cmdsC_len]; omega, fun _ => ?_⟩
 obtain ⟨b', off', e, hb, hc⟩ := h.2 (by omega)
 injection e with e
 injection e with e1 e2 e3
 subst e1
 subst e2
 refine ⟨_, _, rfl, hb, fun j u hu => ?_⟩
 rw [Nat.add_assoc]
 refine hc (7 + j) u ?_
 rw [show x :: xs = [x] ++ xs from rfl, cmdsC_append, List.getElem?_append_right (by rw [cmdsC_len]; show 1 * 7 ≤ 7 + j; omega), cmdsC_len]
 rw [show 7 + j - [x].length * 7 = j by show 7 + j - 1 * 7 = j; omega]
 exact hu

def RetL (w w' : World) (ns ws : List CmdS) (e : Ending) : Prop := ∃ v, e = .returned v ∧ LineV w' w.heap.size ns ws v

set_option maxRecDepth 100000 in
theorem lmade_nil (v : Value) (base : Nat) (w : World) (h : ReadC w 0 [] base v) :
  Calls Tryz.prog 92 #[v] w fun e w' => RetL w w' [] [] e ∧ Below w.heap.size w w' := by
 obtain ⟨A, c, rfl, h1, h2, h3, -⟩ := h
 clear h3
 go_enter Tryz.func92, Tryz.ntmps92
 go_wp2
 refine bodyPost_ret (v := .agg #[.slice none 0 0, .slice none 0 0]) (by simp [results, Tryz.results92, go_sem]) rfl ⟨⟨_, rfl, _, _, rfl, ?_, ?_⟩, by exact belowBy⟩
 all_goals exact ⟨none, 0, rfl, Nat.le_refl _, by omega, Lies.empty, fun b o h => absurd h (by simp)⟩


set_option maxRecDepth 100000 in
theorem lmade_cons (x : CmdS) (xs : List CmdS) (v : Value) (base : Nat) (w : World) (h : ReadC w (x :: xs).length (cmdsC (x :: xs)) base v) (hn : (x :: xs).length ≤ 400) :
  Calls Tryz.prog 92 #[v] w fun e w' => RetL w w' [x] xs e ∧ Below w.heap.size w w' := by
 obtain ⟨A, c, rfl, h1, h2, h3, -⟩ := h
 obtain ⟨n, hlen⟩ : ∃ n, (x :: xs).length = n := ⟨_, rfl⟩
 rw [hlen] at h1 h3 hn ⊢
 have hn1 : 1 ≤ n := by rw [← hlen, List.length_cons]; omega
 obtain ⟨b, off, rfl, hb, hc⟩ := h3.2 hn1
 have HA := Lib.hid h3.head
 have HB := Lib.hid h3.tail
 have hxs : xs.length = n - 1 := by rw [← hlen, List.length_cons]; omega
 have HL := Lib.hid hxs
 have hnI : (1 : Int) ≤ (n : Int) := by omega
 have hcI : (n : Int) ≤ (c : Int) := by omega
 have hn0 : ((n : Int) == 0) = false := by simp; omega
 clear hc h3 hlen hxs
 by_cases hcc : c = 1
 ·subst hcc
  obtain rfl : n = 1 := by omega
  go_enter Tryz.func92, Tryz.ntmps92
  obtain ⟨W0, hW0⟩ : ∃ W0, w.heap.size + 1 = W0 := ⟨_, rfl⟩
  have HW0 := Lib.hid hW0
  clear hW0
  go_wp2_with fail
  refine wp_region_wild 7 1000 ([{ i := 2, d := 9, R := isReadC 1 (cmdsC [x]) W0, N := (fun _ => []) }, { i := 5, d := 12, R := isReadC 0 (cmdsC xs) W0, N := (fun _ => []) }, { i := 6, d := 13, R := isAny, N := (fun _ => []), D := [2, 5], L := isAgg1 }] : List Wd) [false, false, true, false, false, true, true] rfl (by kernel_rfl) (by kernel_rfl) (fun _ _ _ _ _ h => h) (by kernel_rfl) ?_ ?_
  ·intro x hx v w1 w2 hR hb
   simp only [List.mem_cons, List.not_mem_nil, or_false] at hx
   rcases hx with rfl | rfl | rfl
   all_goals (dsimp only at hR ⊢; exact hR.below hb)
  apply Exists.intro
  refine ⟨fun S hS hne => ?_, ?_, ?_, ?_⟩
  ·simp only [List.take_succ_cons, List.take_zero, List.map_cons, List.map_nil]
   delta CS
   repeat (first | with_reducible refine mask_skip ?_ | ((with_reducible refine mask_keep ?_); go_big_quiet_step (fail)))
   exact mask_nil rfl
  ·intro x hx he
   simp only [List.mem_cons, List.not_mem_nil, or_false] at hx
   rcases hx with rfl | rfl | rfl
   all_goals (dsimp only at he; exact absurd he (by decide))
  ·skip
   simp only [List.forall_mem_cons, List.not_mem_nil, false_implies, implies_true, and_true]
   refine ⟨?_, ?_, ?_⟩
   all_goals
    intro o ho
    simp only [List.getElem?_cons_succ, List.getElem?_cons_zero, Option.some.injEq] at ho
    subst ho
    intro vs w' hbw hdeps
    simp only [putsF, List.foldl_cons, List.foldl_nil]
    refine ⟨by first | rfl | go_simp, ?_⟩
    first | with_reducible refine wild_plain ?_ | with_reducible refine wild_link ?_
    simp only [List.forall_mem_cons, List.not_mem_nil, false_implies, implies_true, and_true] at hdeps
    obtain ⟨dp0, dp1, dp2⟩ := hdeps
   ·clear dp0 dp1 dp2
    go_simp
    apply wildUpon_enter
    refine (clone_cmd _ 1 1 (cmdsC [x]) _ (by omega) ((HA.out.below ?bb).wide ?bz) (cmdsC_one _)).mono ?_
    case bb => exact ((Below.refl _ _).alloc (Nat.le_refl _) _).trans (hbw.mono (by simp))
    case bz => have := hbw.size; simp at this; omega
    rintro e w6 ⟨⟨v, rfl, hr⟩, hb6⟩
    exact ⟨_, rfl, hr.base0 (by have := hbw.size; simp at this; have := HW0.out; omega), hb6, by simp⟩
   ·clear dp0 dp1 dp2
    go_simp
    apply wildUpon_enter
    refine (clone_cmd _ 0 _ (cmdsC xs) _ (by omega) (((show Lies w w.heap.size 7 (some ⟨b, off, none⟩) 0 (cmdsC xs) from ⟨by rw [cmdsC_len, HL.out], fun h => absurd h (by omega)⟩).below ?bb).wide ?bz) (cmdsC_one _)).mono ?_
    case bb => exact ((Below.refl _ _).alloc (Nat.le_refl _) _).trans (hbw.mono (by simp))
    case bz => have := hbw.size; simp at this; omega
    rintro e w6 ⟨⟨v, rfl, hr⟩, hb6⟩
    exact ⟨_, rfl, hr.base0 (by have := hbw.size; simp at this; have := HW0.out; omega), hb6, by simp⟩
   ·obtain ⟨A2, c2, e2, _⟩ := dp0 (by decide)
    obtain ⟨A5, c5, e5, _⟩ := dp1 (by decide)
    clear dp0 dp1 dp2
    rw [e2, e5]
    go_simp
    exact wildUpon_value ⟨⟨trivial, rfl⟩, Below.refl _ _, by simp⟩
  ·skip
   intro vs w' hbw hr hap hlk
   simp only [List.forall_mem_cons, List.not_mem_nil, false_implies, implies_true, and_true] at hr hap
   obtain ⟨hh2, hh5, hh6⟩ := hr
   obtain ⟨A2, c2, e2, k2, m2, l2, f2⟩ := hh2
   obtain ⟨A5, c5, e5, k5, m5, l5, f5⟩ := hh5
   clear hh6
   simp only [List.forall_mem_cons, List.not_mem_nil, false_implies, implies_true, and_true, true_and, List.map_cons, List.map_nil, isAgg1, e2, e5] at hlk
   have l6 := hlk
   try simp only [e2, e5] at hap
   try simp only [newB_ptr, newB_row, newB_win, newB_win2, List.mem_cons, forall_eq_or_imp, or_false, List.mem_singleton, forall_eq, List.not_mem_nil, false_implies, implies_true, not_false_eq_true, and_true, true_and] at  hap
   try simp only [ne_eq, not_true_eq_false, false_implies, true_and, and_true, Nat.reduceEqDiff, not_false_eq_true, forall_const] at hap
   simp only [putsF, List.foldl_cons, List.foldl_nil, e2, e5, l6, List.drop_succ_cons, List.drop_zero]
   clear e2 e5 l6
   have hsz : w.heap.size + 1 ≤ w'.heap.size := by have := hbw.size; simpa using this
   have hp : w.heap.size < w'.heap.size := by omega
   have HR : Hid (LineV w' W0 [x] xs (.agg #[.slice A2 1 c2, .slice A5 0 c5])) := Lib.hid ⟨_, _, rfl, ⟨A2, c2, rfl, k2, m2, l2, f2⟩, by rw [HL.out]; exact ⟨A5, c5, rfl, k5, m5, l5, f5⟩⟩
   have g0 : w'.cell? ⟨w.heap.size, 0, none⟩ = some (.slice none 0 0) := (hbw.cell (p := ⟨w.heap.size, 0, none⟩) (by simp)).trans (by go_simp)
   have g1 : w'.cell? ⟨w.heap.size, 1, none⟩ = some (.slice none 0 0) := (hbw.cell (p := ⟨w.heap.size, 1, none⟩) (by simp)).trans (by go_simp)
   have gf : ∀ o, w'.frozen? ⟨w.heap.size, o, none⟩ = false := fun o => (hbw.frozen (p := ⟨w.heap.size, o, none⟩) (by simp)).trans (by go_simp)
   have hB : Below w.heap.size w w' := ((Below.refl _ _).alloc (Nat.le_refl _) _).trans (hbw.mono (by simp))
   clear l2 l5 f2 f5 hbw
   go_wp2
   have hW0 := HW0.out
   have hlt : w.heap.size < W0 := by omega
   refine bodyPost_ret (v := .agg #[.slice A2 1 c2, .slice A5 0 c5]) ?_ rfl ?_
   ·simp [results, Tryz.results92, go_sem, g0, g1, gf]
   ·exact ⟨⟨_, rfl, ((HR.out.store (p := ⟨w.heap.size, 0, none⟩) hlt _).store (p := ⟨w.heap.size, 1, none⟩) hlt _).base0 (by omega)⟩, by exact belowBy⟩
 ·have hcn : ¬ 1 = c := by omega
  go_enter Tryz.func92, Tryz.ntmps92
  obtain ⟨W0, hW0⟩ : ∃ W0, w.heap.size + 1 = W0 := ⟨_, rfl⟩
  have HW0 := Lib.hid hW0
  clear hW0
  go_wp2_with fail
  refine wp_region_wild 7 1000 ([{ i := 2, d := 9, R := isReadC 1 (cmdsC [x]) W0, N := (fun _ => []) }, { i := 5, d := 12, R := isReadC (n - 1) (cmdsC xs) W0, N := (fun _ => []) }, { i := 6, d := 13, R := isAny, N := (fun _ => []), D := [2, 5], L := isAgg1 }] : List Wd) [false, false, true, false, false, true, true] rfl (by kernel_rfl) (by kernel_rfl) (fun _ _ _ _ _ h => h) (by kernel_rfl) ?_ ?_
  ·intro x hx v w1 w2 hR hb
   simp only [List.mem_cons, List.not_mem_nil, or_false] at hx
   rcases hx with rfl | rfl | rfl
   all_goals (dsimp only at hR ⊢; exact hR.below hb)
  apply Exists.intro
  refine ⟨fun S hS hne => ?_, ?_, ?_, ?_⟩
  ·simp only [List.take_succ_cons, List.take_zero, List.map_cons, List.map_nil]
   delta CS
   repeat (first | with_reducible refine mask_skip ?_ | ((with_reducible refine mask_keep ?_); go_big_quiet_step (fail)))
   exact mask_nil rfl
  ·intro x hx he
   simp only [List.mem_cons, List.not_mem_nil, or_false] at hx
   rcases hx with rfl | rfl | rfl
   all_goals (dsimp only at he; exact absurd he (by decide))
  ·skip
   simp only [List.forall_mem_cons, List.not_mem_nil, false_implies, implies_true, and_true]
   refine ⟨?_, ?_, ?_⟩
   all_goals
    intro o ho
    simp only [List.getElem?_cons_succ, List.getElem?_cons_zero, Option.some.injEq] at ho
    subst ho
    intro vs w' hbw hdeps
    simp only [putsF, List.foldl_cons, List.foldl_nil]
    refine ⟨by first | rfl | go_simp, ?_⟩
    first | with_reducible refine wild_plain ?_ | with_reducible refine wild_link ?_
    simp only [List.forall_mem_cons, List.not_mem_nil, false_implies, implies_true, and_true] at hdeps
    obtain ⟨dp0, dp1, dp2⟩ := hdeps
   ·clear dp0 dp1 dp2
    go_simp
    apply wildUpon_enter
    refine (clone_cmd _ 1 c (cmdsC [x]) _ (by omega) ((HA.out.below ?bb).wide ?bz) (cmdsC_one _)).mono ?_
    case bb => exact ((Below.refl _ _).alloc (Nat.le_refl _) _).trans (hbw.mono (by simp))
    case bz => have := hbw.size; simp at this; omega
    rintro e w6 ⟨⟨v, rfl, hr⟩, hb6⟩
    exact ⟨_, rfl, hr.base0 (by have := hbw.size; simp at this; have := HW0.out; omega), hb6, by simp⟩
   ·clear dp0 dp1 dp2
    go_simp
    apply wildUpon_enter
    refine (clone_cmd _ (n - 1) _ (cmdsC xs) _ (by omega) ((HB.out.below ?bb).wide ?bz) (cmdsC_one _)).mono ?_
    case bb => exact ((Below.refl _ _).alloc (Nat.le_refl _) _).trans (hbw.mono (by simp))
    case bz => have := hbw.size; simp at this; omega
    rintro e w6 ⟨⟨v, rfl, hr⟩, hb6⟩
    exact ⟨_, rfl, hr.base0 (by have := hbw.size; simp at this; have := HW0.out; omega), hb6, by simp⟩
   ·obtain ⟨A2, c2, e2, _⟩ := dp0 (by decide)
    obtain ⟨A5, c5, e5, _⟩ := dp1 (by decide)
    clear dp0 dp1 dp2
    rw [e2, e5]
    go_simp
    exact wildUpon_value ⟨⟨trivial, rfl⟩, Below.refl _ _, by simp⟩
  ·skip
   intro vs w' hbw hr hap hlk
   simp only [List.forall_mem_cons, List.not_mem_nil, false_implies, implies_true, and_true] at hr hap
   obtain ⟨hh2, hh5, hh6⟩ := hr
   obtain ⟨A2, c2, e2, k2, m2, l2, f2⟩ := hh2
   obtain ⟨A5, c5, e5, k5, m5, l5, f5⟩ := hh5
   clear hh6
   simp only [List.forall_mem_cons, List.not_mem_nil, false_implies, implies_true, and_true, true_and, List.map_cons, List.map_nil, isAgg1, e2, e5] at hlk
   have l6 := hlk
   try simp only [e2, e5] at hap
   try simp only [newB_ptr, newB_row, newB_win, newB_win2, List.mem_cons, forall_eq_or_imp, or_false, List.mem_singleton, forall_eq, List.not_mem_nil, false_implies, implies_true, not_false_eq_true, and_true, true_and] at  hap
   try simp only [ne_eq, not_true_eq_false, false_implies, true_and, and_true, Nat.reduceEqDiff, not_false_eq_true, forall_const] at hap
   simp only [putsF, List.foldl_cons, List.foldl_nil, e2, e5, l6, List.drop_succ_cons, List.drop_zero]
   clear e2 e5 l6
   have hsz : w.heap.size + 1 ≤ w'.heap.size := by have := hbw.size; simpa using this
   have hp : w.heap.size < w'.heap.size := by omega
   have HR : Hid (LineV w' W0 [x] xs (.agg #[.slice A2 1 c2, .slice A5 (n - 1) c5])) := Lib.hid ⟨_, _, rfl, ⟨A2, c2, rfl, k2, m2, l2, f2⟩, by rw [HL.out]; exact ⟨A5, c5, rfl, k5, m5, l5, f5⟩⟩
   have g0 : w'.cell? ⟨w.heap.size, 0, none⟩ = some (.slice none 0 0) := (hbw.cell (p := ⟨w.heap.size, 0, none⟩) (by simp)).trans (by go_simp)
   have g1 : w'.cell? ⟨w.heap.size, 1, none⟩ = some (.slice none 0 0) := (hbw.cell (p := ⟨w.heap.size, 1, none⟩) (by simp)).trans (by go_simp)
   have gf : ∀ o, w'.frozen? ⟨w.heap.size, o, none⟩ = false := fun o => (hbw.frozen (p := ⟨w.heap.size, o, none⟩) (by simp)).trans (by go_simp)
   have hB : Below w.heap.size w w' := ((Below.refl _ _).alloc (Nat.le_refl _) _).trans (hbw.mono (by simp))
   clear l2 l5 f2 f5 hbw
   go_wp2
   have hW0 := HW0.out
   have hlt : w.heap.size < W0 := by omega
   refine bodyPost_ret (v := .agg #[.slice A2 1 c2, .slice A5 (n - 1) c5]) ?_ rfl ?_
   ·simp [results, Tryz.results92, go_sem, g0, g1, gf]
   ·exact ⟨⟨_, rfl, ((HR.out.store (p := ⟨w.heap.size, 0, none⟩) hlt _).store (p := ⟨w.heap.size, 1, none⟩) hlt _).base0 (by omega)⟩, by exact belowBy⟩

end Go.Proofs.YthhfnageadckkaaGreat
