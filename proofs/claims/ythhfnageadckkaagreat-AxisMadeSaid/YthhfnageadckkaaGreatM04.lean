/- Merged: Regions that draw their order, whose callees may make memory of their own but leave what was there as it was: one walk in the text's order serves every order. Contracts of layer 9: what is right, what is safe. Contracts of layer 9: what it may do, a step. Contracts of layer 9: a step; what is wanted. -/
import Derived.Test.YthhfnageadckkaaGreatM01
import Derived.Test.YthhfnageadckkaaGreatM02
import Derived.Test.YthhfnageadckkaaGreatM03
set_option linter.unusedVariables false
set_option linter.unusedSimpArgs false
set_option maxHeartbeats 4000000
namespace Go.Proofs.YthhfnageadckkaaGreat
open Go.RowKit

structure Ext (W : World) where
 w : World
 h : Below W.heap.size W w
def ext (W : World) (x : Ext W) : World := x.1
instance ext_some (W : World) : Nonempty (Ext W) := ⟨⟨W, Below.refl _ _⟩⟩
theorem ext_cell (W : World) (x : Ext W) (b o : Nat) (h : b < W.heap.size) : (ext W x).cell? ⟨b, o, none⟩ = W.cell? ⟨b, o, none⟩ := x.2.cell (p := ⟨b, o, none⟩) h
theorem ext_frozen (W : World) (x : Ext W) (b o : Nat) (h : b < W.heap.size) : (ext W x).frozen? ⟨b, o, none⟩ = W.frozen? ⟨b, o, none⟩ := x.2.frozen (p := ⟨b, o, none⟩) h
theorem ext_below {W w' : World} (h : ∃ x, w' = ext W x) : Below W.heap.size W w' := by
 obtain ⟨x, rfl⟩ := h
 exact x.2

theorem wp_region_ext {P : Program} {id : Nat} {Q : Exit → Act → World → Prop} {a : Act} {w : World} {l : List Oper} (hm : P.follows .mixedOrders = true) (hB : Region.lexB .any l.toArray = true)
  (h : wpQuiet P l.toArray (fun w' => ∃ x, w' = ext w x) (fun a' => ∀ w', (∃ x, w' = ext w x) → Q .normal a' w') l a) : (Code.region id l.toArray true).wp P Q a w :=
 wp_region_quiet (C := fun w' => ∃ x, w' = ext w x) hm hB ⟨⟨w.drew, (Below.refl _ _).drew⟩, rfl⟩ (by simpa using h)

theorem ext_call {P : Program} {f : FuncId} {args : Array Value} {W : World} {x : Ext W} {v : Value}
  (h : Calls P f args (ext W x) fun e w' => e = .returned v ∧ Below (ext W x).heap.size (ext W x) w') : Calls P f args (ext W x) fun e w'' => e = .returned v ∧ ∃ y, w'' = ext W y :=
 h.mono fun _ _ ⟨he, hb⟩ => ⟨he, ⟨_, below_go x.2 hb (Nat.le_refl _)⟩, rfl⟩
theorem ext_same {P : Program} {f : FuncId} {args : Array Value} {W : World} {x : Ext W} {v : Value}
  (h : Calls P f args (ext W x) fun e w' => e = .returned v ∧ ext W x = w') : Calls P f args (ext W x) fun e w'' => e = .returned v ∧ ∃ y, w'' = ext W y :=
 h.mono fun _ _ ⟨he, hb⟩ => ⟨he, x, hb.symm⟩

theorem wp_name {P : Program} {c : Code} {Q : Exit → Act → World → Prop} {a : Act} {w : World} (h : ∀ W, Hid (W = w) → c.wp P Q a W) : c.wp P Q a w := h w rfl

end Go.Proofs.YthhfnageadckkaaGreat

namespace Go.Proofs.YthhfnageadckkaaGreat
open Go.RowKit
attribute [local go_sem] ite_max ite_min vite_max vite_min ite_max0 vite_max0 ext_cell ext_frozen

theorem within_any (n lo hi : Int) (w : World) : Calls Tryz.prog 51 #[.int .i64 n, .int .i64 lo, .int .i64 hi] w fun e w' => e = .returned (.bool (decide (lo ≤ n ∧ n ≤ hi))) ∧ w = w' := by
 by_cases h1 : lo ≤ n
 ·go_enter Tryz.func51, Tryz.ntmps51
  go_wp2
  go_ret
  exact ⟨by simp [h1], rfl⟩
 ·have h2 : decide (lo ≤ n) = false := by simp; omega
  rw [decide_eq_false (show ¬ (lo ≤ n ∧ n ≤ hi) by omega)]
  go_enter Tryz.func51, Tryz.ntmps51
  go_wp2
  go_ret
  exact ⟨rfl, rfl⟩

set_option maxRecDepth 100000 in
theorem gright_any (V A D L H : Int) (w : World) : Calls Tryz.prog 39 #[.agg #[.int .i64 V, .int .i64 A, .int .i64 D, .int .i64 L, .int .i64 H]] w fun e w' => e = .returned (.bool (rightB ⟨V, A, D, L, H⟩)) ∧ Below w.heap.size w w' := by
 go_enter Tryz.func39, Tryz.ntmps39
 go_wp2_with (first | (go_at_call 51; refine (within_any _ _ _ _).mono ?_; rintro e w' ⟨rfl, rfl⟩))
 all_goals go_ret
 all_goals
  refine ⟨congrArg (fun b => Ending.returned (.bool b)) ?_, by exact belowBy⟩
  rw [Bool.eq_iff_iff]
  simp only [rightB, decide_eq_true_eq, Bool.and_eq_true, Bool.false_eq_true, true_iff, false_iff]
  omega

theorem Way_sl (v d : Int) (w : World) (hv : 0 ≤ v ∧ v ≤ 1048576) (hd : 1 ≤ d ∧ d ≤ 1048576) :
  Calls Tryz.prog 52 #[.int .i64 v, .int .i64 d] w fun e w' => e = .returned (.int .i64 (slw v 0 d)) ∧ w = w' := by
 have h := Way_in v d w hv
 rw [lss_id d hd] at h
 exact h

set_option maxRecDepth 100000 in
theorem gsafe_any (V A D L H p v : Int) (w : World) (hr : rightB ⟨V, A, D, L, H⟩ = true) (hp : -9223372036854775808 ≤ p ∧ p ≤ 9223372036854775807) :
  Calls Tryz.prog 25 #[.agg #[.int .i64 V, .int .i64 A, .int .i64 D, .int .i64 L, .int .i64 H], .agg #[.int .i64 p, .int .i64 v]] w fun e w' => e = .returned (.bool (safeB ⟨V, A, D, L, H⟩ ⟨p, v⟩)) ∧ Below w.heap.size w w' := by
 have hy := rightB_yes hr
 simp only at hy
 by_cases c1 : L ≤ p ∧ p ≤ H
 ·by_cases c2 : -1048576 ≤ v ∧ v ≤ 1048576
  ·by_cases c3 : 0 ≤ v
   ·have hb := slw_bound v 0 D (by omega) (by omega) (by omega)
    have hw : safeB ⟨V, A, D, L, H⟩ ⟨p, v⟩ = decide (slw v 0 D ≤ H - p) := by
     rw [Bool.eq_iff_iff]
     simp only [safeB, decide_eq_true_eq]
     omega
    have HW := Lib.hid hw
    clear hw
    go_enter Tryz.func25, Tryz.ntmps25
    go_wp2_with (first | (go_at_call 51; refine (within_any _ _ _ _).mono ?_; rintro e w' ⟨rfl, rfl⟩))
    refine wp_region_ext (by kernel_rfl) (by kernel_rfl) ?_
    repeat (go_big_quiet_step (first | (go_at_call 52; exact ext_same (Way_sl _ _ _ (by omega) (by omega)))))
    refine wpQuiet_nil ?_
    intro w1 hb1
    replace hb1 := ext_below hb1
    go_wp2
    go_ret
    rw [HW.out]
    exact ⟨rfl, by exact belowBy⟩
   ·have hb := slw_bound (-v) 0 D (by omega) (by omega) (by omega)
    have hw : safeB ⟨V, A, D, L, H⟩ ⟨p, v⟩ = decide (slw (-v) 0 D ≤ p - L) := by
     rw [Bool.eq_iff_iff]
     simp only [safeB, decide_eq_true_eq]
     omega
    have HW := Lib.hid hw
    clear hw
    go_enter Tryz.func25, Tryz.ntmps25
    go_wp2_with (first | (go_at_call 51; refine (within_any _ _ _ _).mono ?_; rintro e w' ⟨rfl, rfl⟩))
    refine wp_region_ext (by kernel_rfl) (by kernel_rfl) ?_
    repeat (go_big_quiet_step (first | (go_at_call 52; exact ext_same (Way_sl _ _ _ (by omega) (by omega)))))
    refine wpQuiet_nil ?_
    intro w1 hb1
    replace hb1 := ext_below hb1
    go_wp2
    go_ret
    rw [HW.out]
    exact ⟨rfl, by exact belowBy⟩
  ·have hw : safeB ⟨V, A, D, L, H⟩ ⟨p, v⟩ = false := decide_eq_false (by simp only; omega)
   have HW := Lib.hid hw
   have d2 : decide (-1048576 ≤ v ∧ v ≤ 1048576) = false := decide_eq_false c2
   clear hw c2
   go_enter Tryz.func25, Tryz.ntmps25
   go_wp2_with (first | (go_at_call 51; refine (within_any _ _ _ _).mono ?_; rintro e w' ⟨rfl, rfl⟩))
   go_ret
   rw [HW.out]
   exact ⟨rfl, by exact belowBy⟩
 ·have hw : safeB ⟨V, A, D, L, H⟩ ⟨p, v⟩ = false := decide_eq_false (by simp only; omega)
  have HW := Lib.hid hw
  have d1 : decide (L ≤ p ∧ p ≤ H) = false := decide_eq_false c1
  clear hw c1
  go_enter Tryz.func25, Tryz.ntmps25
  go_wp2_with (first | (go_at_call 51; refine (within_any _ _ _ _).mono ?_; rintro e w' ⟨rfl, rfl⟩))
  go_ret
  rw [HW.out]
  exact ⟨rfl, by exact belowBy⟩

def okB (l : LimS) (g : GenS) : Bool := rightB l && safeB l g

theorem gright_at (V A D L H : Int) (w : World) (b : Bool) (h : rightB ⟨V, A, D, L, H⟩ = b) : Calls Tryz.prog 39 #[.agg #[.int .i64 V, .int .i64 A, .int .i64 D, .int .i64 L, .int .i64 H]] w fun e w' => e = .returned (.bool b) ∧ Below w.heap.size w w' := by
 subst h
 exact gright_any V A D L H w
theorem gsafe_at (V A D L H p v : Int) (w : World) (hr : rightB ⟨V, A, D, L, H⟩ = true) (hp : -9223372036854775808 ≤ p ∧ p ≤ 9223372036854775807) (b : Bool) (h : safeB ⟨V, A, D, L, H⟩ ⟨p, v⟩ = b) :
  Calls Tryz.prog 25 #[.agg #[.int .i64 V, .int .i64 A, .int .i64 D, .int .i64 L, .int .i64 H], .agg #[.int .i64 p, .int .i64 v]] w fun e w' => e = .returned (.bool b) ∧ Below w.heap.size w w' := by
 subst h
 exact gsafe_any V A D L H p v w hr hp

set_option maxRecDepth 100000 in
theorem gok_any (V A D L H p v : Int) (w : World) (hp : -9223372036854775808 ≤ p ∧ p ≤ 9223372036854775807) :
  Calls Tryz.prog 102 #[.agg #[.int .i64 V, .int .i64 A, .int .i64 D, .int .i64 L, .int .i64 H], .agg #[.int .i64 p, .int .i64 v]] w fun e w' => e = .returned (.bool (okB ⟨V, A, D, L, H⟩ ⟨p, v⟩)) ∧ Below w.heap.size w w' := by
 cases hr : rightB ⟨V, A, D, L, H⟩
 ·have hk : okB ⟨V, A, D, L, H⟩ ⟨p, v⟩ = false := by simp [okB, hr]
  have HK := Lib.hid hk
  have HR := Lib.hid hr
  clear hk hr
  go_enter Tryz.func102, Tryz.ntmps102
  go_wp2_with fail
  refine (gright_at _ _ _ _ _ _ _ HR.out).mono ?_
  rintro e w1 ⟨rfl, hb1⟩
  go_wp2
  go_ret
  rw [HK.out]
  exact ⟨rfl, by exact belowBy⟩
 ·have hk : okB ⟨V, A, D, L, H⟩ ⟨p, v⟩ = safeB ⟨V, A, D, L, H⟩ ⟨p, v⟩ := by simp [okB, hr]
  have HK := Lib.hid hk
  have HR := Lib.hid hr
  clear hk hr
  go_enter Tryz.func102, Tryz.ntmps102
  go_wp2_with fail
  refine (gright_at _ _ _ _ _ _ _ HR.out).mono ?_
  rintro e w1 ⟨rfl, hb1⟩
  obtain ⟨hb1c, hb1f⟩ := bcell hb1
  have hb1z := hb1.size
  have hb1c0 := fun o => hb1c (w.heap.size) o sideBy
  have hb1f0 := fun o => hb1f (w.heap.size) o sideBy
  have hb1l0 := below_lt (b := w.heap.size) hb1 sideBy
  have hb1c1 := fun o => hb1c (w.heap.size + 1) o sideBy
  have hb1f1 := fun o => hb1f (w.heap.size + 1) o sideBy
  have hb1l1 := below_lt (b := w.heap.size + 1) hb1 sideBy
  go_wp2_with fail
  refine (gsafe_any _ _ _ _ _ _ _ _ HR.out hp).mono ?_
  rintro e w2 ⟨rfl, hb2⟩
  go_wp2
  go_ret
  rw [HK.out]
  exact ⟨rfl, by exact belowBy⟩
theorem gok_at (V A D L H p v : Int) (w : World) (hp : -9223372036854775808 ≤ p ∧ p ≤ 9223372036854775807) (b : Bool) (h : okB ⟨V, A, D, L, H⟩ ⟨p, v⟩ = b) :
  Calls Tryz.prog 102 #[.agg #[.int .i64 V, .int .i64 A, .int .i64 D, .int .i64 L, .int .i64 H], .agg #[.int .i64 p, .int .i64 v]] w fun e w' => e = .returned (.bool b) ∧ Below w.heap.size w w' := by
 subst h
 exact gok_any V A D L H p v w hp

theorem reach_sl (s d : Int) (w : World) (hs : 0 ≤ s ∧ s ≤ 2199023255552) (hd : 1 ≤ d ∧ d ≤ 1048576) :
  Calls Tryz.prog 119 #[.int .i64 s, .int .i64 d] w fun e w' => e = .returned (.int .i64 (rch s d)) ∧ Below w.heap.size w w' := by
 have h := reach_any s d w
 rw [wy_id s hs, lss_id d hd] at h
 exact h

set_option maxRecDepth 100000 in
theorem gup_any (V A D L H v room : Int) (w : World) (hr : rightB ⟨V, A, D, L, H⟩ = true) (hv : 0 ≤ v ∧ v ≤ 1048576) (hm : 0 ≤ room ∧ room ≤ 2199023255552) :
  Calls Tryz.prog 123 #[.agg #[.int .i64 V, .int .i64 A, .int .i64 D, .int .i64 L, .int .i64 H], .int .i64 v, .int .i64 room] w fun e w' => e = .returned (.tuple #[.int .i64 (upLo ⟨V, A, D, L, H⟩ v), .int .i64 (upHi ⟨V, A, D, L, H⟩ v room)]) ∧ Below w.heap.size w w' := by
 have hy := rightB_yes hr
 simp only at hy
 have hb := rch_bd room D
 go_enter Tryz.func123, Tryz.ntmps123
 go_wp2_with fail
 refine wp_region_ext (by kernel_rfl) (by kernel_rfl) ?_
 repeat (go_big_quiet_step (first | (go_at_call 119; exact ext_call (reach_sl _ _ _ (by omega) (by omega)))))
 refine wpQuiet_nil ?_
 intro w1 hb1
 replace hb1 := ext_below hb1
 go_wp2
 go_ret2
 rw [show upLo ⟨V, A, D, L, H⟩ v = max (v - D) 0 by unfold upLo; simp only; omega, show upHi ⟨V, A, D, L, H⟩ v room = max (v - D) (max 0 (min (rch room D) (min V (v + A)))) by unfold upHi upLo; simp only; omega]
 exact ⟨rfl, by exact belowBy⟩


theorem okB_yes {l : LimS} {g : GenS} (h : okB l g = true) : rightB l = true ∧ safeB l g = true := by simpa [okB] using h

set_option maxRecDepth 100000 in
theorem gmay_yes (V A D L H p v : Int) (w : World) (hk : okB ⟨V, A, D, L, H⟩ ⟨p, v⟩ = true) :
  Calls Tryz.prog 103 #[.agg #[.int .i64 V, .int .i64 A, .int .i64 D, .int .i64 L, .int .i64 H], .agg #[.int .i64 p, .int .i64 v]] w fun e w' => e = .returned (.tuple #[.int .i64 (mayLo ⟨V, A, D, L, H⟩ ⟨p, v⟩), .int .i64 (mayHi ⟨V, A, D, L, H⟩ ⟨p, v⟩)]) ∧ Below w.heap.size w w' := by
 have hr := (okB_yes hk).1
 have hy := rightB_yes hr
 have hs := safeB_yes (okB_yes hk).2
 simp only at hy hs
 have hp1 : L ≤ p ∧ p ≤ H := by omega
 have hv1 : -1048576 ≤ v ∧ v ≤ 1048576 := by omega
 have HK := Lib.hid hk
 have HR := Lib.hid hr
 clear hs hk hr
 by_cases c1 : 0 < v
 ·have h1 : mayLo ⟨V, A, D, L, H⟩ ⟨p, v⟩ = upLo ⟨V, A, D, L, H⟩ v := by simp [mayLo, c1]
  have h2 : mayHi ⟨V, A, D, L, H⟩ ⟨p, v⟩ = upHi ⟨V, A, D, L, H⟩ v (H - p) := by simp [mayHi, c1]
  have H1 := Lib.hid h1
  have H2 := Lib.hid h2
  clear h1 h2
  go_enter Tryz.func103, Tryz.ntmps103
  go_wp2_with fail
  refine (gok_at _ _ _ _ _ _ _ _ (by omega) _ HK.out).mono ?_
  rintro e w1 ⟨rfl, hb1⟩
  obtain ⟨hb1c, hb1f⟩ := bcell hb1
  have hb1z := hb1.size
  have hb1c0 := fun o => hb1c (w.heap.size) o sideBy
  have hb1f0 := fun o => hb1f (w.heap.size) o sideBy
  have hb1l0 := below_lt (b := w.heap.size) hb1 sideBy
  have hb1c1 := fun o => hb1c (w.heap.size + 1) o sideBy
  have hb1f1 := fun o => hb1f (w.heap.size + 1) o sideBy
  have hb1l1 := below_lt (b := w.heap.size + 1) hb1 sideBy
  go_wp2_with fail
  refine wp_region_ext (by kernel_rfl) (by kernel_rfl) ?_
  repeat (go_big_quiet_step (fail))
  refine wpQuiet_nil ?_
  intro w2 hb2
  replace hb2 := ext_below hb2
  obtain ⟨hb2c, hb2f⟩ := bcell hb2
  have hb2z := hb2.size
  have hb2c0 := fun o => hb2c (w.heap.size) o sideBy
  have hb2f0 := fun o => hb2f (w.heap.size) o sideBy
  have hb2l0 := below_lt (b := w.heap.size) hb2 sideBy
  have hb2c1 := fun o => hb2c (w.heap.size + 1) o sideBy
  have hb2f1 := fun o => hb2f (w.heap.size + 1) o sideBy
  have hb2l1 := below_lt (b := w.heap.size + 1) hb2 sideBy
  go_wp2_with fail
  refine (gup_any _ _ _ _ _ _ _ _ HR.out (by omega) (by omega)).mono ?_
  rintro e w3 ⟨rfl, hb3⟩
  go_wp2
  go_ret2
  rw [H1.out, H2.out]
  exact ⟨rfl, by exact belowBy⟩
 ·by_cases c2 : v < 0
  ·have h1 : mayLo ⟨V, A, D, L, H⟩ ⟨p, v⟩ = -upHi ⟨V, A, D, L, H⟩ (-v) (p - L) := by simp [mayLo, c1, c2]
   have h2 : mayHi ⟨V, A, D, L, H⟩ ⟨p, v⟩ = -upLo ⟨V, A, D, L, H⟩ (-v) := by simp [mayHi, c1, c2]
   have h3 := upLo_bd ⟨V, A, D, L, H⟩ (-v) (by omega) HR.out
   have h4 := upHi_bd ⟨V, A, D, L, H⟩ (-v) (p - L) (by omega) HR.out
   have H1 := Lib.hid h1
   have H2 := Lib.hid h2
   clear h1 h2
   go_enter Tryz.func103, Tryz.ntmps103
   go_wp2_with fail
   refine (gok_at _ _ _ _ _ _ _ _ (by omega) _ HK.out).mono ?_
   rintro e w1 ⟨rfl, hb1⟩
   obtain ⟨hb1c, hb1f⟩ := bcell hb1
   have hb1z := hb1.size
   have hb1c0 := fun o => hb1c (w.heap.size) o sideBy
   have hb1f0 := fun o => hb1f (w.heap.size) o sideBy
   have hb1l0 := below_lt (b := w.heap.size) hb1 sideBy
   have hb1c1 := fun o => hb1c (w.heap.size + 1) o sideBy
   have hb1f1 := fun o => hb1f (w.heap.size + 1) o sideBy
   have hb1l1 := below_lt (b := w.heap.size + 1) hb1 sideBy
   go_wp2_with fail
   refine wp_region_ext (by kernel_rfl) (by kernel_rfl) ?_
   repeat (go_big_quiet_step (fail))
   refine wpQuiet_nil ?_
   intro w2 hb2
   replace hb2 := ext_below hb2
   obtain ⟨hb2c, hb2f⟩ := bcell hb2
   have hb2z := hb2.size
   have hb2c0 := fun o => hb2c (w.heap.size) o sideBy
   have hb2f0 := fun o => hb2f (w.heap.size) o sideBy
   have hb2l0 := below_lt (b := w.heap.size) hb2 sideBy
   have hb2c1 := fun o => hb2c (w.heap.size + 1) o sideBy
   have hb2f1 := fun o => hb2f (w.heap.size + 1) o sideBy
   have hb2l1 := below_lt (b := w.heap.size + 1) hb2 sideBy
   go_wp2_with fail
   refine (gup_any _ _ _ _ _ _ _ _ HR.out (by omega) (by omega)).mono ?_
   rintro e w3 ⟨rfl, hb3⟩
   go_wp2
   go_ret2
   rw [H1.out, H2.out]
   exact ⟨rfl, by exact belowBy⟩
  ·obtain rfl : v = 0 := by omega
   have h1 : mayLo ⟨V, A, D, L, H⟩ ⟨p, 0⟩ = -upHi ⟨V, A, D, L, H⟩ 0 (p - L) := by simp [mayLo]
   have h2 : mayHi ⟨V, A, D, L, H⟩ ⟨p, 0⟩ = upHi ⟨V, A, D, L, H⟩ 0 (H - p) := by simp [mayHi]
   have h3 := upLo_bd ⟨V, A, D, L, H⟩ 0 (by omega) HR.out
   have h4 := upHi_bd ⟨V, A, D, L, H⟩ 0 (p - L) (by omega) HR.out
   have h5 := upHi_bd ⟨V, A, D, L, H⟩ 0 (H - p) (by omega) HR.out
   have H1 := Lib.hid h1
   have H2 := Lib.hid h2
   clear h1 h2 c1 c2
   go_enter Tryz.func103, Tryz.ntmps103
   go_wp2_with fail
   refine (gok_at _ _ _ _ _ _ _ _ (by omega) _ HK.out).mono ?_
   rintro e w1 ⟨rfl, hb1⟩
   obtain ⟨hb1c, hb1f⟩ := bcell hb1
   have hb1z := hb1.size
   have hb1c0 := fun o => hb1c (w.heap.size) o sideBy
   have hb1f0 := fun o => hb1f (w.heap.size) o sideBy
   have hb1l0 := below_lt (b := w.heap.size) hb1 sideBy
   have hb1c1 := fun o => hb1c (w.heap.size + 1) o sideBy
   have hb1f1 := fun o => hb1f (w.heap.size + 1) o sideBy
   have hb1l1 := below_lt (b := w.heap.size + 1) hb1 sideBy
   go_wp2_with fail
   refine wp_region_ext (by kernel_rfl) (by kernel_rfl) ?_
   repeat (go_big_quiet_step (fail))
   refine wpQuiet_nil ?_
   intro w2 hb2
   replace hb2 := ext_below hb2
   obtain ⟨hb2c, hb2f⟩ := bcell hb2
   have hb2z := hb2.size
   have hb2c0 := fun o => hb2c (w.heap.size) o sideBy
   have hb2f0 := fun o => hb2f (w.heap.size) o sideBy
   have hb2l0 := below_lt (b := w.heap.size) hb2 sideBy
   have hb2c1 := fun o => hb2c (w.heap.size + 1) o sideBy
   have hb2f1 := fun o => hb2f (w.heap.size + 1) o sideBy
   have hb2l1 := below_lt (b := w.heap.size + 1) hb2 sideBy
   go_wp2_with fail
   refine (gup_any _ _ _ _ _ _ _ _ HR.out (by omega) (by omega)).mono ?_
   rintro e w3 ⟨rfl, hb3⟩
   obtain ⟨hb3c, hb3f⟩ := bcell hb3
   have hb3z := hb3.size
   have hb3c0 := fun o => hb3c (w.heap.size) o sideBy
   have hb3f0 := fun o => hb3f (w.heap.size) o sideBy
   have hb3l0 := below_lt (b := w.heap.size) hb3 sideBy
   have hb3c1 := fun o => hb3c (w.heap.size + 1) o sideBy
   have hb3f1 := fun o => hb3f (w.heap.size + 1) o sideBy
   have hb3l1 := below_lt (b := w.heap.size + 1) hb3 sideBy
   go_wp2_with fail
   refine (gup_any _ _ _ _ _ _ _ _ HR.out (by omega) (by omega)).mono ?_
   rintro e w4 ⟨rfl, hb4⟩
   go_wp2
   go_ret2
   rw [H1.out, H2.out]
   exact ⟨rfl, by exact belowBy⟩


set_option maxRecDepth 100000 in
theorem gstep_yes (V A D L H p v x : Int) (w : World) (hk : okB ⟨V, A, D, L, H⟩ ⟨p, v⟩ = true) :
  Calls Tryz.prog 74 #[.agg #[.int .i64 V, .int .i64 A, .int .i64 D, .int .i64 L, .int .i64 H], .agg #[.int .i64 p, .int .i64 v], .int .i64 x] w fun e w' => e = .returned (.agg #[.int .i64 (stepG ⟨V, A, D, L, H⟩ ⟨p, v⟩ x).p, .int .i64 (stepG ⟨V, A, D, L, H⟩ ⟨p, v⟩ x).v]) ∧ Below w.heap.size w w' := by
 have hm := may_bd _ _ (okB_yes hk).1 (okB_yes hk).2
 have hy := rightB_yes (okB_yes hk).1
 have hs := safeB_yes (okB_yes hk).2
 simp only at hy hs
 have hp1 : L ≤ p ∧ p ≤ H := by omega
 have HK := Lib.hid hk
 have h1 : (stepG ⟨V, A, D, L, H⟩ ⟨p, v⟩ x).v = max (mayLo ⟨V, A, D, L, H⟩ ⟨p, v⟩) (min (mayHi ⟨V, A, D, L, H⟩ ⟨p, v⟩) x) := rfl
 have h2 : (stepG ⟨V, A, D, L, H⟩ ⟨p, v⟩ x).p = p + max (mayLo ⟨V, A, D, L, H⟩ ⟨p, v⟩) (min (mayHi ⟨V, A, D, L, H⟩ ⟨p, v⟩) x) := rfl
 have H1 := Lib.hid h1
 have H2 := Lib.hid h2
 clear hs hk h1 h2
 go_enter Tryz.func74, Tryz.ntmps74
 go_wp2_with fail
 refine (gok_at _ _ _ _ _ _ _ _ (by omega) _ HK.out).mono ?_
 rintro e w1 ⟨rfl, hb1⟩
 obtain ⟨hb1c, hb1f⟩ := bcell hb1
 have hb1z := hb1.size
 have hb1c0 := fun o => hb1c (w.heap.size) o sideBy
 have hb1f0 := fun o => hb1f (w.heap.size) o sideBy
 have hb1l0 := below_lt (b := w.heap.size) hb1 sideBy
 have hb1c1 := fun o => hb1c (w.heap.size + 1) o sideBy
 have hb1f1 := fun o => hb1f (w.heap.size + 1) o sideBy
 have hb1l1 := below_lt (b := w.heap.size + 1) hb1 sideBy
 have hb1c2 := fun o => hb1c (w.heap.size + 2) o sideBy
 have hb1f2 := fun o => hb1f (w.heap.size + 2) o sideBy
 have hb1l2 := below_lt (b := w.heap.size + 2) hb1 sideBy
 go_wp2_with fail
 refine (gmay_yes _ _ _ _ _ _ _ _ HK.out).mono ?_
 rintro e w2 ⟨rfl, hb2⟩
 obtain ⟨hb2c, hb2f⟩ := bcell hb2
 have hb2z := hb2.size
 have hb2c0 := fun o => hb2c (w.heap.size) o sideBy
 have hb2f0 := fun o => hb2f (w.heap.size) o sideBy
 have hb2l0 := below_lt (b := w.heap.size) hb2 sideBy
 have hb2c1 := fun o => hb2c (w.heap.size + 1) o sideBy
 have hb2f1 := fun o => hb2f (w.heap.size + 1) o sideBy
 have hb2l1 := below_lt (b := w.heap.size + 1) hb2 sideBy
 have hb2c2 := fun o => hb2c (w.heap.size + 2) o sideBy
 have hb2f2 := fun o => hb2f (w.heap.size + 2) o sideBy
 have hb2l2 := below_lt (b := w.heap.size + 2) hb2 sideBy
 go_wp2
 rw [H1.out, H2.out]
 exact bodyPost_ret (v := .agg #[.int .i64 (p + max (mayLo ⟨V, A, D, L, H⟩ ⟨p, v⟩) (min (mayHi ⟨V, A, D, L, H⟩ ⟨p, v⟩) x)), .int .i64 (max (mayLo ⟨V, A, D, L, H⟩ ⟨p, v⟩) (min (mayHi ⟨V, A, D, L, H⟩ ⟨p, v⟩) x))]) (by simp [results, Tryz.results74, go_sem, hb2c2, hb1c2]) rfl ⟨rfl, by exact belowBy⟩

theorem gtoward_any (way v : Int) (w : World) (hv : -1048576 ≤ v ∧ v ≤ 1048576) : Calls Tryz.prog 117 #[.int .i64 way, .int .i64 v] w fun e w' => e = .returned (.int .i64 (towardI way v)) ∧ w = w' := by
 by_cases h : way < 0
 ·rw [show towardI way v = -v by simp [towardI, h]]
  go_enter Tryz.func117, Tryz.ntmps117
  go_wp2
  go_ret
  exact ⟨rfl, rfl⟩
 ·rw [show towardI way v = v by simp [towardI, h]]
  go_enter Tryz.func117, Tryz.ntmps117
  go_wp2
  go_ret
  exact ⟨rfl, rfl⟩

theorem gsize_any (way : Int) (w : World) (hv : -9223372036854775807 ≤ way ∧ way ≤ 9223372036854775807) : Calls Tryz.prog 120 #[.int .i64 way] w fun e w' => e = .returned (.int .i64 (max way (-way))) ∧ w = w' := by
 by_cases h : 0 ≤ way
 ·rw [show max way (-way) = way by omega]
  go_enter Tryz.func120, Tryz.ntmps120
  go_wp2
  go_ret
  exact ⟨rfl, rfl⟩
 ·go_enter Tryz.func120, Tryz.ntmps120
  go_wp2
  go_ret
  exact ⟨rfl, rfl⟩

theorem gspeed_any (v : Int) (w : World) : Calls Tryz.prog 118 #[.int .i64 v] w fun e w' => e = .returned (.int .i64 (spd v)) ∧ w = w' := by
 go_enter Tryz.func118, Tryz.ntmps118
 go_wp2
 go_ret
 exact ⟨rfl, rfl⟩

theorem gaway_any (way v : Int) (w : World) : Calls Tryz.prog 116 #[.int .i64 way, .int .i64 v] w fun e w' => e = .returned (.bool (awayB way v)) ∧ w = w' := by
 go_enter Tryz.func116, Tryz.ntmps116
 go_wp2
 all_goals go_ret
 all_goals
  refine ⟨congrArg (fun b => Ending.returned (.bool b)) ?_, rfl⟩
  rw [Bool.eq_iff_iff]
  simp only [awayB, decide_eq_true_eq, Bool.and_eq_true, Bool.or_eq_true, Bool.false_eq_true, true_iff, false_iff]
  omega

end Go.Proofs.YthhfnageadckkaaGreat
