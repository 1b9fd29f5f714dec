/- Merged: Small lemmas that all my walks use: minimum and maximum in the walk's spelling; what 'Below' gives. Contracts of brake's small functions. Contracts of brake's searches: the greatest speed for which something holds. Contracts of brake's Reach and Pass. Contracts of brake's Reach and Pass. Contracts of the reference's functions of layer 8. Layer 8: the fixed answers; who is slow. -/
import Derived.Test.YthhfnageadckkaaGreatRows
import Derived.WalkKit
import Derived.WalkSpells
import Derived.WalkLawsBesides
import Derived.Lib.Hide
import Derived.Deep.QuietTactic
import Derived.BigQuiet
import Derived.Deep.RegionWith
import Derived.Deep.DeepFit
import Derived.Deep.DeepMust
import Derived.Test.YthhfnageadckkaaGreatPBrake
set_option linter.unusedVariables false
set_option linter.unusedSimpArgs false
set_option maxHeartbeats 400000
namespace Go.Proofs.YthhfnageadckkaaGreat
open Go.RowKit

theorem ite_max (a b : Int) : (if a < b then b else a) = max a b := by
 rw [Int.max_def]; split <;> split <;> omega
theorem ite_min (a b : Int) : (if a < b then a else b) = min a b := by
 rw [Int.min_def]; split <;> split <;> omega
theorem vite_max (k : IntKind) (a b : Int) : (if a < b then Value.int k b else Value.int k a) = Value.int k (max a b) := by
 rw [← ite_max]; split <;> rfl
theorem vite_min (k : IntKind) (a b : Int) : (if a < b then Value.int k a else Value.int k b) = Value.int k (min a b) := by
 rw [← ite_min]; split <;> rfl

theorem ite_max0 (a b : Int) : (if b < a then a - b else 0) = max 0 (a - b) := by
 rw [Int.max_def]; split <;> split <;> omega
theorem vite_max0 (k : IntKind) (a b : Int) : (if b < a then Value.int k (a - b) else Value.int k 0) = Value.int k (max 0 (a - b)) := by
 rw [← ite_max0]; split <;> rfl

theorem bcell {W w1 : World} (hb : Below W.heap.size W w1) : (∀ b o, b < W.heap.size → w1.cell? ⟨b, o, none⟩ = W.cell? ⟨b, o, none⟩) ∧ (∀ b o, b < W.heap.size → w1.frozen? ⟨b, o, none⟩ = W.frozen? ⟨b, o, none⟩) :=
 ⟨fun b o h => hb.cell (p := ⟨b, o, none⟩) h, fun b o h => hb.frozen (p := ⟨b, o, none⟩) h⟩
theorem below_go {B : Nat} {w W w1 : World} (h1 : Below B w W) (hb : Below W.heap.size W w1) (hB : B ≤ w.heap.size) : Below B w w1 := h1.trans (hb.mono (Nat.le_trans hB h1.size))
theorem below_new {B : Nat} {w W : World} (h1 : Below B w W) (hB : B ≤ w.heap.size) (o : Obj) : Below B w (W.alloc o) := h1.alloc (Nat.le_trans hB h1.size) o
theorem below_lt {b : Nat} {W w1 : World} (hb : Below W.heap.size W w1) (h : b < W.heap.size) : b < w1.heap.size := Nat.lt_of_lt_of_le h hb.size
theorem below_drewN {B : Nat} {a w : World} (h : Below B a w) (n : Nat) : Below B a (w.drewN n) := h.trans ⟨rfl, rfl, rfl, Nat.le_refl _, fun _ _ => rfl⟩
theorem belowBy {p : Prop} (h : p := by (repeat' (first | with_reducible (first | exact Below.refl _ _ | assumption | refine below_drewN ?_ _ | refine Below.drew ?_ | refine below_new ?_ (Nat.le_refl _) _ | refine Below.setCell ?_ ?_ _ | refine below_go ?_ (by assumption) (Nat.le_refl _)) | (simp; done) | (simp; omega) | omega))) : p := h
theorem sideBy {p : Prop} (h : p := by first | (simp; done) | (simp; omega) | (simp at *; omega) | omega) : p := h
theorem ly : (∀ (a : Act) (t : Tmp) (v : Value), a.put (some t) v = { a with tmps := a.tmps.setIfInBounds t v }) ∧ (∀ (a : Act) (v : Value), a.put none v = a) ∧ (∀ (l : List Value) (i : Nat) (v : Value), l.toArray.setIfInBounds i v = (l.set i v).toArray) ∧ (∀ (x v : Value) (l : List Value), (x :: l).set 0 v = v :: l) ∧ ∀ (x v : Value) (l : List Value) (n : Nat), (x :: l).set (n + 1) v = x :: l.set n v :=
 ⟨fun _ _ _ => rfl, fun _ _ => rfl, fun _ _ _ => by simp only [List.setIfInBounds_toArray], fun _ _ _ => rfl, fun _ _ _ _ => rfl⟩

theorem quiet_left {P : Program} {f : FuncId} {args : Array Value} {w : World} {n : Nat} {v : Value}
  (h : Calls P f args (w.drewN n) fun e w' => e = .returned v ∧ w.drewN n = w') : Calls P f args (w.drewN n) fun e w'' => e = .returned v ∧ ∃ m, w'' = w.drewN m :=
 h.mono fun _ _ ⟨he, hm⟩ => ⟨he, n, hm.symm⟩
end Go.Proofs.YthhfnageadckkaaGreat

namespace Go.Proofs.YthhfnageadckkaaGreat
open Go.RowKit
attribute [local go_sem] ite_max ite_min vite_max vite_min

theorem speed_any (v : Int) (w : World) :
  Calls Tryz.prog 105 #[.int .i64 v] w fun e w' => e = .returned (.int .i64 (spd v)) ∧ w = w' := by
 go_enter Tryz.func105, Tryz.ntmps105
 go_wp2
 go_ret
 exact ⟨rfl, rfl⟩

theorem loss_any (v : Int) (w : World) :
  Calls Tryz.prog 106 #[.int .i64 v] w fun e w' => e = .returned (.int .i64 (lss v)) ∧ w = w' := by
 go_enter Tryz.func106, Tryz.ntmps106
 go_wp2
 go_ret
 exact ⟨rfl, rfl⟩

theorem way_any (v : Int) (w : World) :
  Calls Tryz.prog 126 #[.int .i64 v] w fun e w' => e = .returned (.int .i64 (wy v)) ∧ w = w' := by
 go_enter Tryz.func126, Tryz.ntmps126
 go_wp2
 go_ret
 exact ⟨rfl, rfl⟩

theorem row_any (v d k : Int) (w : World) (hv : 0 ≤ v ∧ v ≤ 1048576) (hd : 1 ≤ d ∧ d ≤ 1048576) (hk : 0 ≤ k) (hdk : d * k ≤ v) :
  Calls Tryz.prog 107 #[.int .i64 v, .int .i64 d, .int .i64 k] w fun e w' => e = .returned (.int .i64 (rowf v d k)) ∧ w = w' := by
 have hb := row_bd v d k hv hd hk hdk
 go_enter Tryz.func107, Tryz.ntmps107
 go_wp2
 go_ret
 exact ⟨rfl, rfl⟩

theorem slow_any (v u d : Int) (w : World) :
  Calls Tryz.prog 81 #[.int .i64 v, .int .i64 u, .int .i64 d] w fun e w' => e = .returned (.int .i64 (slw (spd v) (spd u) (lss d))) ∧ w = w' := by
 have hv := spd_bd v
 have hu := spd_bd u
 have hd := lss_bd d
 by_cases hc : spd v ≤ spd u
 ·have hs : slw (spd v) (spd u) (lss d) = 0 := by simp [slw, hc]
  have HS := Lib.hid hs
  clear hs
  go_enter Tryz.func81, Tryz.ntmps81
  go_wp2_with (first | (go_at_call 105; refine (speed_any _ _).mono ?_; rintro e w' ⟨rfl, rfl⟩) | (go_at_call 106; refine (loss_any _ _).mono ?_; rintro e w' ⟨rfl, rfl⟩))
  go_ret
  exact ⟨by rw [HS.out]; rfl, rfl⟩
 ·have hs : slw (spd v) (spd u) (lss d) = rowf (spd v) (lss d) ((spd v - spd u - 1) / lss d) := by simp [slw, hc]
  have HS := Lib.hid hs
  clear hs
  have hq := quo_mul (spd v - spd u - 1) (lss d) (by omega) (by omega)
  go_enter Tryz.func81, Tryz.ntmps81
  go_wp2_with (first | (go_at_call 105; refine (speed_any _ _).mono ?_; rintro e w' ⟨rfl, rfl⟩) | (go_at_call 106; refine (loss_any _ _).mono ?_; rintro e w' ⟨rfl, rfl⟩) | (go_at_call 107; refine (row_any _ _ _ _ (by omega) (by omega) (by omega) (by omega)).mono ?_; rintro e w' ⟨rfl, rfl⟩))
  go_ret
  exact ⟨by rw [HS.out]; rfl, rfl⟩

theorem Way_any (v d : Int) (w : World) :
  Calls Tryz.prog 52 #[.int .i64 v, .int .i64 d] w fun e w' => e = .returned (.int .i64 (slw (spd v) 0 (lss d))) ∧ w = w' := by
 go_enter Tryz.func52, Tryz.ntmps52
 go_wp2_with (first | (go_at_call 81; refine (slow_any _ _ _ _).mono ?_; rintro e w' ⟨rfl, rfl⟩))
 go_ret
 exact ⟨rfl, rfl⟩




theorem reach1_any (v s d : Int) (w : World) (ad ac : Addr) (hv : 0 ≤ v ∧ v ≤ 1048576)
  (hcd : w.cell? ad = some (.int .i64 d)) (hcs : w.cell? ac = some (.int .i64 s)) :
  Calls Tryz.prog 128 #[.int .i64 v, .pointer (some ad), .pointer (some ac)] w fun e w' => e = .returned (.bool (stopsB s (lss d) v)) ∧ ∃ n, w' = w.drewN n := by
 have hsv := spd_id v hv
 have hd := lss_bd d
 have hb := slw_bound v 0 (lss d) hv (by omega) hd
 have HS := Lib.hid hsv
 clear hsv
 go_enter Tryz.func128, Tryz.ntmps128
 go_wp2_with fail
 go_quiet ((go_at_call 52; exact quiet_left (Way_any _ _ _)))
 rw [HS.out]
 go_wp2
 go_ret
 rw [IntWalk.wrap64_in _ (by omega)]
 exact ⟨rfl, _, rfl⟩

theorem pass1_any (v s u d : Int) (w : World) (ad ac au : Addr) (hv : 0 ≤ v ∧ v ≤ 1048576) (hu : 0 ≤ u ∧ u ≤ 1048576)
  (hcd : w.cell? ad = some (.int .i64 d)) (hcs : w.cell? ac = some (.int .i64 s)) (hcu : w.cell? au = some (.int .i64 u)) :
  Calls Tryz.prog 129 #[.int .i64 v, .pointer (some au), .pointer (some ad), .pointer (some ac)] w fun e w' => e = .returned (.bool (passB s u (lss d) v)) ∧ ∃ n, w' = w.drewN n := by
 have hsv := spd_id v hv
 have hsu := spd_id u hu
 have hd := lss_bd d
 have hb := slw_bound v u (lss d) hv (by omega) hd
 have HS := Lib.hid hsv
 have HU := Lib.hid hsu
 clear hsv hsu
 by_cases hc : v ≤ u
 ·have hr : passB s u (lss d) v = true := by simp [passB, hc]
  have HR := Lib.hid hr
  clear hr
  go_enter Tryz.func129, Tryz.ntmps129
  go_wp2_with fail
  go_quiet ((go_at_call 81; exact quiet_left (slow_any _ _ _ _)))
  go_wp2
  go_ret
  rw [HR.out]
  exact ⟨rfl, _, rfl⟩
 ·have hr : passB s u (lss d) v = decide (v + slw v u (lss d) ≤ s) := by simp [passB, hc]
  have HR := Lib.hid hr
  clear hr
  have hc' : decide (v ≤ u) = false := by simpa using hc
  clear hc
  go_enter Tryz.func129, Tryz.ntmps129
  go_wp2_with fail
  go_quiet ((go_at_call 81; exact quiet_left (slow_any _ _ _ _)))
  go_wp2
  go_ret
  rw [HR.out, HS.out, HU.out, IntWalk.wrap64_in _ (by omega)]
  exact ⟨rfl, _, rfl⟩


theorem greatest_any (F : FuncId) (caps : Array Value) (p : Int → Bool) (h0 : p 0 = true) (hp : ∀ a b, a ≤ b → p b = true → p a = true) (w : World)
  (hcf : ∀ (args : Array Value) (w : World), Sem.run Tryz.prog (callFunc F args) w = .ok (.enter F args) w)
  (hF : ∀ (v : Int) (n : Nat), 0 ≤ v ∧ v ≤ 1048576 → Calls Tryz.prog F (#[.int .i64 v] ++ caps) (w.drewN n) fun e w' => e = .returned (.bool (p v)) ∧ ∃ m, w' = (w.drewN n).drewN m) :
  Calls Tryz.prog 127 #[.func (.func F) #[] caps] w fun e w' => e = .returned (.int .i64 (grt p 1048576)) ∧ ∃ n, w' = w.drewN n := by
 have HF := Lib.hid hF
 have HP := Lib.hid hp
 have H0 := Lib.hid h0
 clear hF hp h0
 go_enter Tryz.func127, Tryz.ntmps127
 go_wp2
 go_loopw [3, 4] (fun l h w' => ∃ lo hi : Int, 0 ≤ lo ∧ lo ≤ hi ∧ hi ≤ 1048576 ∧ Hid (p lo = true) ∧ Hid (∀ x, hi < x → x ≤ 1048576 → p x = false) ∧ l = .int .i64 lo ∧ h = .int .i64 hi ∧ ∃ n, w' = w.drewN n) (fun l h _ => (intOf h - intOf l).toNat)
 case atStart => exact ⟨0, 1048576, by omega, by omega, by omega, H0, fun x h1 h2 => by omega, rfl, rfl, 0, rfl⟩
 case round =>
  obtain ⟨lo, hi, hl, hlh, hh, HL, HH, rfl, rfl, n, rfl⟩ := hrel
  by_cases hc : lo < hi
  ·cases hpm : p ((lo + hi + 1) / 2)
   ·have HM := Lib.hid hpm
    clear hpm
    go_wp2_with fail
    refine (HF.out ((lo + hi + 1) / 2) n (by omega)).mono ?_
    rw [HM.out]
    rintro e w' ⟨rfl, m, rfl⟩
    go_wp2
    go_roundw
    case rel => exact ⟨lo, (lo + hi + 1) / 2 - 1, hl, by omega, by omega, HL, fun x h1 h2 => by
     by_cases hx : x ≤ hi
     ·cases h3 : p x
      ·rfl
      ·have h4 := HP.out _ _ (show (lo + hi + 1) / 2 ≤ x by omega) h3
       rw [HM.out] at h4
       exact absurd h4 (by simp)
     ·exact HH.out x (by omega) h2, rfl, rfl, n + m, rfl⟩
    case measure => simp [intOf]; omega
   ·have HM := Lib.hid hpm
    clear hpm
    go_wp2_with fail
    refine (HF.out ((lo + hi + 1) / 2) n (by omega)).mono ?_
    rw [HM.out]
    rintro e w' ⟨rfl, m, rfl⟩
    go_wp2
    go_roundw
    case rel => exact ⟨(lo + hi + 1) / 2, hi, by omega, by omega, by omega, HM, HH, rfl, rfl, n + m, rfl⟩
    case measure => simp [intOf]; omega
  ·go_wp2
   have hg : grt p 1048576 = lo := grt_eq p 1048576 lo hl (by omega) HL.out (fun x h1 h2 => HH.out x (by omega) h2)
   go_ret
   rw [hg]
   exact ⟨rfl, n, rfl⟩


theorem cf_reach1 (args : Array Value) (w : World) : Sem.run Tryz.prog (callFunc 128 args) w = .ok (.enter 128 args) w := by
 go_simp

theorem cf_pass1 (args : Array Value) (w : World) : Sem.run Tryz.prog (callFunc 129 args) w = .ok (.enter 129 args) w := by
 go_simp

theorem greatest_reach (s d : Int) (w : World) (ad ac : Addr) (hs : 0 ≤ s)
  (hcd : w.cell? ad = some (.int .i64 d)) (hcs : w.cell? ac = some (.int .i64 s)) :
  Calls Tryz.prog 127 #[.func (.func 128) #[] #[.pointer (some ad), .pointer (some ac)]] w fun e w' => e = .returned (.int .i64 (rch s (lss d))) ∧ ∃ n, w' = w.drewN n :=
 greatest_any 128 #[.pointer (some ad), .pointer (some ac)] (stopsB s (lss d)) (stopsB_zero _ _ hs (lss_bd d).1) (stopsB_anti _ _ (lss_bd d).1) w cf_reach1
  (fun v n hv => reach1_any v s d (w.drewN n) ad ac hv hcd hcs)

theorem greatest_pass (s u d : Int) (w : World) (ad ac au : Addr) (hu : 0 ≤ u ∧ u ≤ 1048576)
  (hcd : w.cell? ad = some (.int .i64 d)) (hcs : w.cell? ac = some (.int .i64 s)) (hcu : w.cell? au = some (.int .i64 u)) :
  Calls Tryz.prog 127 #[.func (.func 129) #[] #[.pointer (some au), .pointer (some ad), .pointer (some ac)]] w fun e w' => e = .returned (.int .i64 (pas s u (lss d))) ∧ ∃ n, w' = w.drewN n :=
 greatest_any 129 #[.pointer (some au), .pointer (some ad), .pointer (some ac)] (passB s u (lss d)) (passB_zero _ _ _ hu.1) (passB_anti _ _ _ (lss_bd d).1 hu.1) w cf_pass1
  (fun v n hv => pass1_any v s u d (w.drewN n) ad ac au hv hu hcd hcs hcu)

theorem reach_any (s d : Int) (w : World) :
  Calls Tryz.prog 119 #[.int .i64 s, .int .i64 d] w fun e w' => e = .returned (.int .i64 (rch (wy s) (lss d))) ∧ Below w.heap.size w w' := by
 have hs := wy_bd s
 go_enter Tryz.func119, Tryz.ntmps119
 go_wp2_with (first | (go_at_call 126; refine (way_any _ _).mono ?_; rintro e w' ⟨rfl, rfl⟩) | fail)
 refine (greatest_reach (wy s) d _ _ _ hs.1 ?_ ?_).mono ?_
 ·go_simp
 ·go_simp
 rintro e w' ⟨rfl, n, rfl⟩
 go_wp2
 go_ret
 exact ⟨rfl, by exact belowBy⟩

theorem pass_any (s u d : Int) (w : World) :
  Calls Tryz.prog 121 #[.int .i64 s, .int .i64 u, .int .i64 d] w fun e w' => e = .returned (.int .i64 (pas (wy s) (spd u) (lss d))) ∧ Below w.heap.size w w' := by
 have hs := wy_bd s
 have hu := spd_bd u
 go_enter Tryz.func121, Tryz.ntmps121
 go_wp2_with fail
 go_region_with (first | (go_at_call 126; refine (way_any _ _).mono ?_; rintro e w' ⟨rfl, rfl⟩) | (go_at_call 105; refine (speed_any _ _).mono ?_; rintro e w' ⟨rfl, rfl⟩))
 all_goals
  go_wp2_with fail
  refine (greatest_pass (wy s) (spd u) d _ _ _ _ hu ?_ ?_ ?_).mono ?_
  ·go_simp
  ·go_simp
  ·go_simp
  rintro e w' ⟨rfl, n, rfl⟩
  go_wp2
  go_ret
  exact ⟨rfl, by exact belowBy⟩









end Go.Proofs.YthhfnageadckkaaGreat
