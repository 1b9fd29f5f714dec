/- Merged: Layer 16: the pins of a kind. Layer 16: timers: what a call of a TON, of a TP lays. A program's size is told, whatever it is. A statement's cells, one by one; the size of a row of statements. -/
import Derived.Test.YtahjijdadifkaaaDoorM01
import Derived.Test.YtahjijdadifkaaaDoorWild
import Derived.Test.YtahjijdadifkaaaDoorM00
import Derived.Test.YtahjijdadifkaaaDoorM02
set_option linter.unusedVariables false
set_option linter.unusedSimpArgs false
set_option maxHeartbeats 2000000
namespace Go.Proofs.YtahjijdadifkaaaDoor
open Go.RowKit
attribute [local go_sem] ite_max ite_min vite_max vite_min ext_cell ext_frozen extS_cell extS_frozen

def inPin : List Value := [.string ⟨#[]⟩, .int .i64 1, .bool false]
theorem inPin_one : ∀ u ∈ inPin, u.oneCell' = true := by
 intro u hu
 simp only [inPin, List.mem_cons, List.not_mem_nil, or_false] at hu
 rcases hu with rfl | rfl | rfl <;> rfl
def inPins : Nat → List Value
 | 0 => []
 | k + 1 => inPins k ++ inPin
def allPins (s : Sh) : List Value := pinsC true s.inp ++ pinsC false s.out ++ inPins s.inner.toNat
def allN (s : Sh) : Nat := pinsN s.inp + pinsN s.out + s.inner.toNat
def pinsOf (kind : Int) : List Value := match shL.find? (fun s => decide (s.kind = kind)) with | some s => allPins s | none => []
def countOf (kind : Int) : Nat := match shL.find? (fun s => decide (s.kind = kind)) with | some s => allN s | none => 0
def okS (s : Sh) : Bool := okN s.inp && okN s.out && decide (1 ≤ pinsN s.inp ∧ pinsN s.inp ≤ 10) && decide (1 ≤ pinsN s.out ∧ pinsN s.out ≤ 10) && decide (0 ≤ s.inner ∧ s.inner ≤ 2)
theorem okS_all : shL.all okS = true := by kernel_rfl

theorem pinsC_one (inn : Bool) (names : ByteArray) : ∀ u ∈ pinsC inn names, u.oneCell' = true := by
 intro u hu
 obtain ⟨l, _, hl⟩ := List.mem_flatMap.1 hu
 exact pinOf_one inn l u hl
def isPins (B n : Nat) (xs : List Value) (v : Value) (w : World) : Prop := ∃ g c, v = .slice (some ⟨g, 0, none⟩) n c ∧ w.ownsRow B 106 3 (.slice (some ⟨g, 0, none⟩) n c) n xs
theorem isPins.below {B n : Nat} {xs : List Value} {v : Value} {w w' : World} (h : isPins B n xs v w) (hb : Below w.heap.size w w') : isPins B n xs v w' := by
 obtain ⟨g, c, hv, o⟩ := h
 exact ⟨g, c, hv, owns_below o hb⟩
theorem wild_pins {w w0 : World} (names : ByteArray) (inn : Bool) (hok : okN names = true) (hn : 1 ≤ pinsN names) (ht : Blanks w) (hB : w0.heap.size ≤ w.heap.size) :
  Calls Tryd.prog 71 #[.string names, .bool inn] w (wildPost w (isPins w0.heap.size (pinsN names) (pinsC inn names)) newB) := by
 refine (pins1_any names inn w hok ht).mono ?_
 rintro e w' ⟨v, rfl, o, hb⟩
 obtain ⟨A, c, hv, h1, h2, h3⟩ := own_form o
 subst hv
 obtain ⟨g, c', he, hg⟩ := World.ownsRow.form o hn
 cases he
 refine ⟨_, rfl, ⟨g, _, rfl, owns_mono o hB⟩, hb, ?_⟩
 have hl := o.lt g rfl
 intro b hb'
 rw [newB_row, List.mem_singleton] at hb'
 subst hb'
 exact hl

set_option maxRecDepth 100000 in
theorem pins_any (kind : Int) (w : World) (htab : Blanks w) :
  Calls Tryd.prog 54 #[.int .i64 kind] w fun e w' => ∃ v, e = .returned v ∧ w'.ownsRow w.heap.size 106 3 v (countOf kind) (pinsOf kind) ∧ Below w.heap.size w w' := by
 obtain ⟨i0, hi0, hz0, hz1, hz2⟩ := info_parts pin_info
 have HI := Lib.hid hi0
 have HZ0 := Lib.hid hz0
 have HZ1 := Lib.hid hz1
 have HZ2 := Lib.hid hz2
 have HT := Lib.hid htab
 clear hi0 hz0 hz1 hz2 htab
 cases hf : shL.find? (fun s => decide (s.kind = kind)) with
 | none =>
  have hp : pinsOf kind = [] := by unfold pinsOf; rw [hf]
  have hc : countOf kind = 0 := by unfold countOf; rw [hf]
  have hv := ofV_none hf
  rw [hp, hc]
  have HV := Lib.hid hv
  clear hp hc hv hf
  go_enter Tryd.func54, Tryd.ntmps54
  go_wp2_with fail
  refine (of_any _ _).mono ?_
  rw [HV.out]
  rintro e w1 ⟨rfl, hb1⟩
  go_wp2
  go_ret
  exact ⟨_, rfl, World.ownsRow_nil _ _ _ _, by exact belowBy⟩
 | some s =>
  have hp : pinsOf kind = allPins s := by unfold pinsOf; rw [hf]
  have hc : countOf kind = allN s := by unfold countOf; rw [hf]
  have hv := ofV_some hf
  have hok := List.all_eq_true.1 okS_all s (List.mem_of_find?_eq_some hf)
  rw [hp, hc]
  unfold okS at hok
  simp only [Bool.and_eq_true, decide_eq_true_eq] at hok
  obtain ⟨⟨⟨⟨ho1, ho2⟩, hn1, hm1⟩, hn2, hm2⟩, hi1, hi2⟩ := hok
  obtain ⟨q, hq⟩ : ∃ q : Nat, s.inner = (q : Int) := ⟨s.inner.toNat, by omega⟩
  have hq2 : q ≤ 2 := by omega
  have hA : allPins s = pinsC true s.inp ++ pinsC false s.out ++ inPins q := by unfold allPins; rw [hq]; rfl
  have hAN : allN s = pinsN s.inp + pinsN s.out + q := by unfold allN; rw [hq]; rfl
  rw [hA, hAN]
  rw [hq] at hv
  obtain ⟨nA, hn1'⟩ : ∃ n, pinsN s.inp = n := ⟨_, rfl⟩
  obtain ⟨nB, hn2'⟩ : ∃ n, pinsN s.out = n := ⟨_, rfl⟩
  obtain ⟨x1, hx1⟩ : ∃ x, pinsC true s.inp = x := ⟨_, rfl⟩
  obtain ⟨x2, hx2⟩ : ∃ x, pinsC false s.out = x := ⟨_, rfl⟩
  rw [hn1', hn2', hx1, hx2]
  rw [hn1'] at hn1 hm1
  rw [hn2'] at hn2 hm2
  have HW1 : Hid (∀ w w0 : World, Blanks w → w0.heap.size ≤ w.heap.size → Calls Tryd.prog 71 #[.string s.inp, .bool true] w (wildPost w (isPins w0.heap.size nA x1) newB)) := Lib.hid (fun w w0 h hB => by rw [← hn1', ← hx1]; exact wild_pins s.inp true ho1 (by omega) h hB)
  have HW2 : Hid (∀ w w0 : World, Blanks w → w0.heap.size ≤ w.heap.size → Calls Tryd.prog 71 #[.string s.out, .bool false] w (wildPost w (isPins w0.heap.size nB x2) newB)) := Lib.hid (fun w w0 h hB => by rw [← hn2', ← hx2]; exact wild_pins s.out false ho2 (by omega) h hB)
  have HX2 : Hid (∀ u ∈ x2, u.oneCell' = true) := Lib.hid (by rw [← hx2]; exact pinsC_one false s.out)
  have HV := Lib.hid hv
  clear hp hc hv hf ho1 ho2 hA hAN hq hn1' hn2' hx1 hx2 hi1 hi2
  go_enter Tryd.func54, Tryd.ntmps54
  go_wp2_with fail
  refine (of_any _ _).mono ?_
  rw [HV.out]
  rintro e w1 ⟨rfl, hb1⟩
  go_upto_region 4 with (fail)
  refine wp_name fun W hW => ?_
  have c0 : W.cell? ⟨w1.heap.size, 0, none⟩ = some (.int .i64 s.kind) := by rw [hW.out]; go_simp
  have c1 : W.cell? ⟨w1.heap.size, 1, none⟩ = some (.string s.name) := by rw [hW.out]; go_simp
  have c2 : W.cell? ⟨w1.heap.size, 2, none⟩ = some (.string s.inp) := by rw [hW.out]; go_simp
  have c3 : W.cell? ⟨w1.heap.size, 3, none⟩ = some (.string s.out) := by rw [hW.out]; go_simp
  have c4 : W.cell? ⟨w1.heap.size, 4, none⟩ = some (.int .i64 q) := by rw [hW.out]; go_simp
  have hl : w1.heap.size < W.heap.size := by rw [hW.out]; simp
  have HB : Hid (Below w.heap.size w W) := Lib.hid (by rw [hW.out]; exact belowBy)
  have hz := HB.out.size
  have HTW : Hid (Blanks W) := Lib.hid (HT.out.on HB.out)
  clear hW hb1
  refine wp_region_wild 6 1000 ([{ i := 2, d := 15, R := isPins W.heap.size nA x1, N := newB }, { i := 5, d := 18, R := isPins W.heap.size nB x2, N := newB }] : List Wd) [false, false, true, false, false, true] rfl (by kernel_rfl) (by kernel_rfl) (fun _ _ _ _ _ h => h) (by kernel_rfl) ?_ ?_
  ·intro x hx v w1 w2 hR hb
   simp only [List.mem_cons, List.not_mem_nil, or_false] at hx
   rcases hx with rfl | rfl
   all_goals (dsimp only at hR ⊢; exact hR.below hb)
  apply Exists.intro
  refine ⟨fun S hS hne => ?_, ?_, ?_, ?_⟩
  ·simp only [List.take_succ_cons, List.take_zero, List.map_cons, List.map_nil]
   delta CS
   repeat (first | with_reducible refine mask_skip ?_ | ((with_reducible refine mask_keep ?_); go_big_quiet_step (fail)))
   exact mask_nil rfl
  ·intro x hx he
   simp only [List.mem_cons, List.not_mem_nil, or_false] at hx
   rcases hx with rfl | rfl
   all_goals (dsimp only at he; exact absurd he (by decide))
  ·skip
   simp only [List.forall_mem_cons, List.not_mem_nil, false_implies, implies_true, and_true]
   refine ⟨?_, ?_⟩
   all_goals
    intro o ho
    simp only [List.getElem?_cons_succ, List.getElem?_cons_zero, Option.some.injEq] at ho
    subst ho
    intro vs w' hbw hdeps
    simp only [putsF, List.foldl_cons, List.foldl_nil]
    refine ⟨by first | rfl | go_simp, ?_⟩
    first | with_reducible refine wild_plain ?_ | with_reducible refine wild_link ?_
    clear hdeps
    go_simp
   ·apply wildUpon_enter
    exact HW1.out _ W (HTW.out.on hbw) hbw.size
   ·apply wildUpon_enter
    exact HW2.out _ W (HTW.out.on hbw) hbw.size
  ·skip
   intro vs w' hbw hr hap hlk
   simp only [List.forall_mem_cons, List.not_mem_nil, false_implies, implies_true, and_true] at hr hap
   obtain ⟨⟨hh2, n2⟩, ⟨hh5, n5⟩⟩ := hr
   obtain ⟨g1, k1, e2, o2⟩ := hh2
   rw [e2] at n2
   obtain ⟨g2, k2, e5, o5⟩ := hh5
   rw [e5] at n5
   clear hlk
   try simp only [e2, e5] at hap
   try simp only [newB_ptr, newB_row, newB_win, newB_win2, List.mem_cons, forall_eq_or_imp, or_false, List.mem_singleton, forall_eq, List.not_mem_nil, false_implies, implies_true, not_false_eq_true, and_true, true_and] at n2 n5 hap
   try simp only [ne_eq, not_true_eq_false, false_implies, true_and, and_true, Nat.reduceEqDiff, not_false_eq_true, forall_const] at hap
   simp only [putsF, List.foldl_cons, List.foldl_nil, e2, e5, List.drop_succ_cons, List.drop_zero]
   clear e2 e5
   obtain ⟨-, hk1, hk1m, -⟩ : True ∧ nA ≤ k1 ∧ k1 ≤ maxLen ∧ True := by
    obtain ⟨A, c, hv, h1, h2, h3⟩ := own_form o2
    cases hv
    exact ⟨trivial, h1, h2, trivial⟩
   have HO1 := Lib.hid o2
   have HO2 := Lib.hid o5
   have HC4 := Lib.hid c4
   have hz' := hbw.size
   have hl' : w1.heap.size < w'.heap.size := by omega
   have HB' : Hid (Below w.heap.size w w') := Lib.hid (HB.out.trans (hbw.mono HB.out.size))
   have hgA := n2.1
   have hgB := n5.1
   have hgne := hap.1
   clear o2 o5 c0 c1 c2 c3 c4 hap n2 n5
   go_wp2_with (at_builtin; refine wpList_append_own _ rfl _ _ 102 rfl W.heap.size 106 i0 (.agg #[.string ⟨#[]⟩, .int .i64 0, .bool false]) 3 32 Tryd.underlying102 HI.out HZ0.out HZ1.out HZ2.out rfl (by decide) _ nA _ rfl HO1.out ⟨g2, 0, none⟩ nB k2 x2 rfl ?xlen ?xnews ?xone ?xmax ?xby ?xbase ?_)
   case xlen => exact HO2.out.1
   case xnews => exact fun j u hu => HO2.out.cells rfl j u hu
   case xone => exact HX2.out
   case xmax => unfold maxLen; omega
   case xby => omega
   case xbase => omega
   intro v3 w3 hown3 hgrow _
   have HO3 := Lib.hid hown3
   have hb3 : Below W.heap.size W w3 := below_grown (hbw.mono (Nat.le_refl _)) hgrow HO1.out (Nat.le_refl _) hz'
   clear hown3 hgrow HO1 HO2
   have d0 := (hb3.cell (p := ⟨w1.heap.size, 4, none⟩) hl).trans HC4.out
   have hz3 := hb3.size
   have hl3 : w1.heap.size < w3.heap.size := by omega
   have HB3 : Hid (Below w.heap.size w w3) := Lib.hid (HB.out.trans (hb3.mono HB.out.size))
   clear HC4
   go_wp2_with fail
   go_loopw [5, 22] (fun v u wr => ∃ (k : Nat) (v' : Value), v' = v ∧ k ≤ q ∧ u = .int .i64 k ∧ Hid (wr.ownsRow W.heap.size 106 3 v' (nA + nB + k) (x1 ++ x2 ++ inPins k)) ∧ Below W.heap.size W wr) (fun _ u _ => q - (intOf u).toNat)
   case atStart => exact ⟨0, _, rfl, by omega, rfl, Lib.hid (by simpa [inPins] using HO3.out), hb3⟩
   case round =>
    obtain ⟨k, v', rfl, hk, rfl, HO, hbr⟩ := hrel
    have hbs := hbr.size
    by_cases hlt : k < q
    ·have hkq : (k : Int) < (q : Int) := by omega
     clear HO3 d0
     go_wp2_with (at_builtin; refine wpList_append_own _ rfl _ _ 102 rfl W.heap.size 106 i0 (.agg #[.string ⟨#[]⟩, .int .i64 0, .bool false]) 3 32 Tryd.underlying102 HI.out HZ0.out HZ1.out HZ2.out rfl (by decide) _ (nA + nB + k) _ rfl (HO.out.alloc _) ⟨wr.heap.size, 0, none⟩ 1 1 inPin rfl ?ylen ?ynews inPin_one ?ymax ?yby ?ybase ?_)
     case ylen => rfl
     case ynews =>
      intro j u hu
      have had : (⟨wr.heap.size, 0, none⟩ : Addr).add j = ⟨wr.heap.size, j, none⟩ := by cases j <;> simp [Addr.add]
      rw [had]
      exact heap_cell j _ (heap_alloc_new _ _) (by rw [List.getElem?_toArray]; exact hu)
     case ymax => unfold maxLen; omega
     case yby => omega
     case ybase => first | omega | (simp; omega)
     intro v2 w2 hown2 hgrow _
     have HO2 : Hid (w2.ownsRow W.heap.size 106 3 v2 (nA + nB + (k + 1)) (x1 ++ x2 ++ inPins (k + 1))) := Lib.hid (by
      have : x1 ++ x2 ++ inPins (k + 1) = x1 ++ (x2 ++ (inPins k ++ inPin)) := by simp [inPins, List.append_assoc]
      rw [this]
      exact hown2)
     have hb2 : Below W.heap.size W w2 := below_grown (below_new hbr (Nat.le_refl _) _) hgrow (HO.out.alloc _) (Nat.le_refl _) (by simp; omega)
     clear hown2 hgrow HO
     go_wp2
     go_roundw
     case rel => exact ⟨k + 1, _, rfl, by omega, by go_num, HO2, hb2⟩
     case measure => simp [intOf]; omega
    ·obtain rfl : k = q := by omega
     clear HO3 d0
     go_wp2
     go_ret
     exact ⟨_, rfl, owns_mono HO.out (by omega), HB.out.trans (hbr.mono HB.out.size)⟩


structure Row (w : World) (g : Nat) (zs : List Int) : Prop where
 lt : g < w.heap.size
 cell : ∀ (j : Nat) z, zs[j]? = some z → w.cell? ⟨g, j, none⟩ = some (.int .i64 z)
 free : ∀ o, w.frozen? ⟨g, o, none⟩ = false
theorem Row.below {w w' : World} {g : Nat} {zs : List Int} (h : Row w g zs) (hb : Below w.heap.size w w') : Row w' g zs :=
 ⟨Nat.lt_of_lt_of_le h.lt hb.size, fun j z hz => (hb.cell (p := ⟨g, j, none⟩) h.lt).trans (h.cell j z hz), fun o => (hb.frozen (p := ⟨g, o, none⟩) h.lt).trans (h.free o)⟩
theorem Row.mk0 {w : World} {g : Nat} {zs : List Int} (hl : g < w.heap.size) (hf : ∀ o, w.frozen? ⟨g, o, none⟩ = false) (h : ∀ (k : Nat) y, zs[k]? = some y → w.cell? ⟨g, 0 + k, none⟩ = some (.int .i64 y)) : Row w g zs :=
 ⟨hl, fun j z hz => by have := h j z hz; rwa [Nat.zero_add] at this, hf⟩
structure But (g : Nat) (w w' : World) : Prop where
 size : w.heap.size ≤ w'.heap.size
 blk : ∀ b, b < w.heap.size → b ≠ g → w'.heap[b]? = w.heap[b]?
 below : ∀ B, B ≤ g → B ≤ w.heap.size → Below B w w'
theorem But.cell {g : Nat} {w w' : World} (h : But g w w') : ∀ b o, b < w.heap.size → b ≠ g → w'.cell? ⟨b, o, none⟩ = w.cell? ⟨b, o, none⟩ := fun b o hb hn => World.cell?_of_block (a := ⟨b, o, none⟩) (h.blk b hb hn)
theorem But.froz {g : Nat} {w w' : World} (h : But g w w') : ∀ b o, b < w.heap.size → b ≠ g → w'.frozen? ⟨b, o, none⟩ = w.frozen? ⟨b, o, none⟩ := fun b o hb hn => World.frozen?_of_block (a := ⟨b, o, none⟩) (h.blk b hb hn)
theorem But.of_below {g : Nat} {w w' : World} (h : Below w.heap.size w w') : But g w w' :=
 ⟨h.size, fun b hb _ => h.block b hb, fun _ _ h2 => h.mono h2⟩
theorem But.trans {g : Nat} {a b c : World} (h1 : But g a b) (h2 : But g b c) : But g a c :=
 ⟨Nat.le_trans h1.size h2.size, fun x hx hn => (h2.blk x (Nat.lt_of_lt_of_le hx h1.size) hn).trans (h1.blk x hx hn),
  fun B hB hs => (h1.below B hB hs).trans (h2.below B hB (Nat.le_trans hs h1.size))⟩
theorem But.set {g : Nat} {w w' : World} (h : But g w w') (o : Nat) (v : Value) : But g w (w'.setCell ⟨g, o, none⟩ v) := by
 refine ⟨by simpa [World.setCell] using h.size, fun b hb hn => ?_, fun B hB hs => ?_⟩
 ·exact (Below.heap_setCell w' ⟨g, o, none⟩ v b hn).trans (h.blk b hb hn)
 ·exact Below.setCell (h.below B hB hs) (by show B ≤ g; exact hB) _

theorem But.refl (g : Nat) (w : World) : But g w w := But.of_below (Below.refl _ _)
theorem But.alloc {g : Nat} {w w' : World} (h : But g w w') (o : Obj) : But g w (w'.alloc o) := h.trans (But.of_below ((Below.refl _ _).alloc (Nat.le_refl _) o))
theorem But.drew {g : Nat} {w w' : World} (h : But g w w') : But g w w'.drew := h.trans (But.of_below ((Below.refl _ _).drew))
theorem But.drewN {g : Nat} {w w' : World} (h : But g w w') (n : Nat) : But g w (w'.drewN n) := h.trans (But.of_below (below_drewN (Below.refl _ _) n))





end Go.Proofs.YtahjijdadifkaaaDoor

namespace Go.Proofs.YtahjijdadifkaaaDoor
open Go.RowKit
attribute [local go_sem] ite_max ite_min vite_max vite_min ext_cell ext_frozen

theorem sub_lt {x : Ex} {xs : List Ex} {i : Nat} (h : xs[i]? = some x) : SizeOf.sizeOf x.sub < SizeOf.sizeOf xs := by
 have h1 := List.sizeOf_lt_of_mem (List.mem_of_getElem? h)
 have h2 : SizeOf.sizeOf x.sub < SizeOf.sizeOf x := by
  cases x
  simp [Ex.sub]
  omega
 omega
def TwoI (e : Ending) : Prop := ∃ a b : Int, e = .returned (.tuple #[.int .i64 a, .int .i64 b])

set_option maxRecDepth 100000 in
theorem sizeExprs_any : ∀ (k : Nat) (xs : List Ex), SizeOf.sizeOf xs < k → ∀ (w : World) (A : Option Addr) (cap : Nat) (m : Int), RowE w A xs cap → Calls Tryd.prog 51 #[.slice A xs.length cap, .int .i64 m] w fun e w' => TwoI e ∧ Below w.heap.size w w' := by
 intro k
 induction k with
 | zero => intro xs h; omega
 | succ k ih =>
  intro xs hsz w A cap m hrow
  have HIH := Lib.hid ih
  have HR := Lib.hid hrow
  have hl := hrow.1
  have hc := hrow.2.1
  obtain ⟨n, hn⟩ : ∃ n, xs.length = n := ⟨_, rfl⟩
  rw [hn] at hl ⊢
  have HN := Lib.hid hn
  clear ih hrow hn
  go_enter Tryd.func51, Tryd.ntmps51
  go_wp2_with fail
  go_loopw [6, 7, 8] (fun va vb vi wr => ∃ (i : Nat) (a b : Int), i ≤ n ∧ va = .int .i64 a ∧ vb = .int .i64 b ∧ vi = .int .i64 i ∧ Below w.heap.size w wr) (fun _ _ vi _ => n - (intOf vi).toNat)
  case atStart => exact ⟨0, 0, 0, by omega, rfl, rfl, rfl, Below.refl _ _⟩
  case round =>
   obtain ⟨i, a, b, hi, rfl, rfl, rfl, hbr⟩ := hrel
   by_cases hlt : i < n
   ·by_cases hle : a ≤ m
    ·obtain ⟨bb, off, x, cs, rfl, hbl, hx, hat, hcell⟩ := RowOf.at (HR.out.below hbr) (i := i) (by rw [HN.out]; exact hlt)
     obtain ⟨As, ks, rfl, hsub, -, -, -⟩ := hat.form
     have c4 : wr.cell? ⟨bb, off + i * 6 + 4, none⟩ = some (.slice As x.sub.length ks) := hcell 4 (by omega)
     have hi0 : (0 : Int) ≤ (i : Int) ∧ (i : Int) < (n : Int) := by omega
     have HX := Lib.hid hx
     have HS := Lib.hid hsub
     clear hat hcell hx hsub
     go_wp2_with fail
     refine (HIH.out x.sub (by have := sub_lt HX.out; omega) _ _ _ _ HS.out).mono ?_
     rintro e w2 ⟨⟨a2, b2, rfl⟩, hb2⟩
     go_wp2
     go_roundw
     case rel => exact ⟨i + 1, _, _, by omega, rfl, rfl, by go_num, by exact belowBy⟩
     case measure => simp [intOf]; omega
    ·have hi0 : (i : Int) < (n : Int) := by omega
     go_wp2
     go_ret2
     exact ⟨⟨_, _, rfl⟩, hbr⟩
   ·obtain rfl : i = n := by omega
    go_wp2
    go_ret2
    exact ⟨⟨_, _, rfl⟩, hbr⟩


structure SM where
 ta : Option Addr
 va : Option Addr
 ca : Option Addr
 la : Option Addr
 fa : Option Addr
 ba : Option Addr
 tk : Nat
 vk : Nat
 ck : Nat
 lk : Nat
 fk : Nat
 bk : Nat
def ExC (x : Ex) (A : Option Addr) (k : Nat) : List Value := [.int .i64 x.op, .int .i64 x.n, .string x.name, .string x.field, .slice A x.sub.length k, .int .i64 x.line]
def StmC (s : Stm) (m : SM) : List Value := [.int .i64 s.op, .string s.name, .int .i64 s.dst.op, .int .i64 s.dst.n, .string s.dst.name, .string s.dst.field, .slice m.ta s.dst.sub.length m.tk, .int .i64 s.dst.line,
 .int .i64 s.src.op, .int .i64 s.src.n, .string s.src.name, .string s.src.field, .slice m.va s.src.sub.length m.vk, .int .i64 s.src.line, .slice m.ca s.conds.length m.ck, .slice m.la s.labels.length m.lk, .slice m.fa s.fields.length m.fk, .slice m.ba s.blocks.length m.bk, .int .i64 s.line]

structure SV (w : World) (b o : Nat) (s : Stm) (m : SM) : Prop where
 lt : b < w.heap.size
 cell : ∀ j u, (StmC s m)[j]? = some u → w.cell? ⟨b, o + j, none⟩ = some u
 dst : ExAt w s.dst (ExC s.dst m.ta m.tk)
 src : ExAt w s.src (ExC s.src m.va m.vk)
 conds : RowE w m.ca s.conds m.ck
 labels : RowL w m.la s.labels m.lk
 fields : RowS w m.fa s.fields m.fk
 blocks : RowB w m.ba s.blocks m.bk
 op : I64 s.op
 line : I64 s.line
theorem SV.below {w w' : World} {b o : Nat} {s : Stm} {m : SM} (h : SV w b o s m) (hb : Below w.heap.size w w') : SV w' b o s m :=
 ⟨Nat.lt_of_lt_of_le h.lt hb.size, fun j u hu => (hb.cell (p := ⟨b, o + j, none⟩) h.lt).trans (h.cell j u hu), h.dst.keep hb, h.src.keep hb, h.conds.below hb, h.labels.below hb, h.fields.below hb, h.blocks.below hb, h.op, h.line⟩
theorem StmAt.form19 {w : World} {s : Stm} {cs : List Value} (h : StmAt w s cs) : ∃ m, cs = StmC s m ∧ ExAt w s.dst (ExC s.dst m.ta m.tk) ∧ ExAt w s.src (ExC s.src m.va m.vk) ∧ RowE w m.ca s.conds m.ck ∧ RowL w m.la s.labels m.lk ∧ RowS w m.fa s.fields m.fk ∧ RowB w m.ba s.blocks m.bk ∧ I64 s.op ∧ I64 s.line := by
 obtain ⟨tc, vc, Ac, Al, Af, Ab, kc, kl, kf, kb, rfl, hto, hval, h1, h2, h3, h4, h5, h6⟩ := h.form
 obtain ⟨ta, tk, ht, -⟩ := hto.form
 obtain ⟨va, vk, hv, -⟩ := hval.form
 subst ht hv
 exact ⟨⟨ta, va, Ac, Al, Af, Ab, tk, vk, kc, kl, kf, kb⟩, rfl, hto, hval, h1, h2, h3, h4, h5, h6⟩
theorem SV.stm {w : World} {b o : Nat} {s : Stm} {m : SM} (h : SV w b o s m) : StmAt w s (StmC s m) := by
 have := StmAt.of (name := s.name) h.op h.line h.dst h.src h.conds h.labels h.fields h.blocks
 cases s
 exact this
theorem RowT.at {w : World} {A : Option Addr} {xs : List Stm} {cap : Nat} (h : RowT w A xs cap) {i : Nat} (hi : i < xs.length) : ∃ b off s m, A = some ⟨b, off, none⟩ ∧ b < w.heap.size ∧ xs[i]? = some s ∧ SV w b (off + i * 19) s m := by
 obtain ⟨b, off, s, cs, hA, hb, hs, hat, hcell⟩ := RowOf.at h hi
 obtain ⟨m, rfl, h1, h2, h3, h4, h5, h6, h7, h8⟩ := hat.form19
 refine ⟨b, off, s, m, hA, hb, hs, hb, fun j u hu => ?_, h1, h2, h3, h4, h5, h6, h7, h8⟩
 have hj : j < 19 := (List.getElem?_eq_some_iff.1 hu).1
 rw [hcell j hj, hu]
theorem SV.copy {w W : World} {b o H : Nat} {s : Stm} {m : SM} {T : TypeId} (h : SV w b o s m) (hb : Below w.heap.size w W) (hH : W.heap[H]? = some (.cells (StmC s m).toArray T)) : SV W H 0 s m := by
 have h' := h.below hb
 refine ⟨(Array.getElem?_eq_some_iff.1 hH).1, fun j u hu => ?_, h'.dst, h'.src, h'.conds, h'.labels, h'.fields, h'.blocks, h.op, h.line⟩
 rw [Nat.zero_add]
 exact heap_cell j _ hH (by rw [List.getElem?_toArray]; exact hu)
theorem SV.at0 {w : World} {H : Nat} {s : Stm} {m : SM} (h : SV w H 0 s m) (j : Nat) (u : Value) (hu : (StmC s m)[j]? = some u) : w.cell? ⟨H, j, none⟩ = some u := by
 have := h.cell j u hu
 rwa [Nat.zero_add] at this

theorem stm_sizes {xs : List Stm} {i : Nat} {s : Stm} (h : xs[i]? = some s) : SizeOf.sizeOf s < SizeOf.sizeOf xs := List.sizeOf_lt_of_mem (List.mem_of_getElem? h)
theorem block_lt {xs : List Stm} {i k : Nat} {s : Stm} {bl : List Stm} (h : xs[i]? = some s) (hk : s.blocks[k]? = some bl) : SizeOf.sizeOf bl < SizeOf.sizeOf xs := by
 have h1 := stm_sizes h
 have h2 := List.sizeOf_lt_of_mem (List.mem_of_getElem? hk)
 have h3 : SizeOf.sizeOf s.blocks < SizeOf.sizeOf s := by
  cases s
  simp [Stm.blocks]
  omega
 omega

end Go.Proofs.YtahjijdadifkaaaDoor
