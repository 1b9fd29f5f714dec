/- Merged: Contracts of layer 10: what contains a number that a function tells; is it a window? Contracts of layer 10: the setpoint; are all places one? A region that draws its order: first what only reads or calls quietly (the callees may make memory of their own), in whatever order; behind all of it, in one order, the rest (a store, say). A region that draws its order: what only reads or calls (the callees may make memory of their own), and ONE new variable that is made somewhere in between; behind all of it, in one order, the rest (the store into the new variable). Contracts of layer 10: a number, repeated. Contracts of layer 10: a new window. -/
import Derived.Test.YthhfnageadckkaaGreatM01
import Derived.Test.YthhfnageadckkaaGreatM04
import Derived.Test.YthhfnageadckkaaGreatM02
import Derived.StillTail
import Derived.Test.YthhfnageadckkaaGreatShelf
import Derived.Laws.CopyOwn
import Derived.Laws.MakeOwn
import Derived.Deep.RegionLaw
set_option linter.unusedVariables false
set_option linter.unusedSimpArgs false
set_option maxHeartbeats 2000000
namespace Go.Proofs.YthhfnageadckkaaGreat
open Go.RowKit
attribute [local go_sem] ite_max ite_min vite_max vite_min ext_cell ext_frozen

def plB (n : Int) : Bool := decide (-2199023255552 ≤ n ∧ n ≤ 2199023255552)
theorem plB_yes {n : Int} (h : plB n = true) : -2199023255552 ≤ n ∧ n ≤ 2199023255552 := of_decide_eq_true h
def anyK (p : Int → Bool) (zs : List Int) : Nat → Bool
 | 0 => false
 | k + 1 => anyK p zs k || p (zs[k]?.getD 0)
theorem anyK_mono (p : Int → Bool) (zs : List Int) (k m : Nat) (h : k ≤ m) (hk : anyK p zs k = true) : anyK p zs m = true := by
 induction m with
 | zero =>
  obtain rfl : k = 0 := by omega
  exact hk
 | succ m ih =>
  by_cases c : k = m + 1
  ·subst c
   exact hk
  ·show (anyK p zs m || _) = true
   rw [ih (by omega)]
   rfl
theorem anyK_no (p : Int → Bool) (zs : List Int) (m : Nat) (h : anyK p zs m = false) (i : Nat) (hi : i < m) : p (zs[i]?.getD 0) = false := by
 cases hp : p (zs[i]?.getD 0)
 ·rfl
 ·have : anyK p zs (i + 1) = true := by
   show (anyK p zs i || p (zs[i]?.getD 0)) = true
   rw [hp, Bool.or_true]
  rw [anyK_mono p zs (i + 1) m (by omega) this] at h
  cases h
theorem anyK_of (p : Int → Bool) (zs : List Int) (m : Nat) (h : ∀ i, i < m → p (zs[i]?.getD 0) = false) : anyK p zs m = false := by
 induction m with
 | zero => rfl
 | succ m ih =>
  show (anyK p zs m || p (zs[m]?.getD 0)) = false
  rw [ih (fun i hi => h i (by omega)), h m (by omega)]
  rfl

theorem sm_place_any (n : Int) (w : World) : Calls Tryz.prog 50 #[.int .i64 n] w fun e w' => e = .returned (.bool (plB n)) ∧ w = w' := by
 by_cases h1 : -2199023255552 ≤ n
 ·go_enter Tryz.func50, Tryz.ntmps50
  go_wp2
  go_ret
  exact ⟨by simp [h1, plB], rfl⟩
 ·have hp : plB n = false := decide_eq_false (by omega)
  have h2 : decide (-2199023255552 ≤ n) = false := decide_eq_false h1
  have HP := Lib.hid hp
  clear hp h1
  go_enter Tryz.func50, Tryz.ntmps50
  go_wp2
  go_ret
  rw [HP.out]
  exact ⟨rfl, rfl⟩

theorem sm_right1_any (n : Int) (w : World) : Calls Tryz.prog 49 #[.int .i64 n] w fun e w' => e = .returned (.bool (!plB n)) ∧ w = w' := by
 go_enter Tryz.func49, Tryz.ntmps49
 go_wp2_with (first | (go_at_call 50; refine (sm_place_any _ _).mono ?_; rintro e w' ⟨rfl, rfl⟩))
 go_ret
 exact ⟨rfl, rfl⟩

theorem cf_right1 (args : Array Value) (w : World) : Sem.run Tryz.prog (callFunc 49 args) w = .ok (.enter 49 args) w := by
 go_simp
theorem cf_rest1 (args : Array Value) (w : World) : Sem.run Tryz.prog (callFunc 108 args) w = .ok (.enter 108 args) w := by
 go_simp

def SomeIdx (b : Bool) (w : World) (e : Ending) (w' : World) : Prop := ∃ j : Int, (b = decide (0 ≤ j)) ∧ e = .returned (.int .i64 j) ∧ w = w'

theorem sm_index_any (F : FuncId) (caps : Array Value) (p : Int → Bool) (zs : List Int) (b off n cap : Nat) (w : World)
  (hcf : ∀ (args : Array Value) (w : World), Sem.run Tryz.prog (callFunc F args) w = .ok (.enter F args) w)
  (hF : ∀ v, Calls Tryz.prog F (#[.int .i64 v] ++ caps) w fun e w' => e = .returned (.bool (p v)) ∧ w = w')
  (hn : n ≤ cap) (hcap : cap ≤ 9223372036854775807) (hc : ∀ i, i < n → w.cell? ⟨b, off + i, none⟩ = some (.int .i64 (zs[i]?.getD 0))) :
  Calls Tryz.prog 80 #[.slice (some ⟨b, off, none⟩) n cap, .func (.func F) #[] caps] w (SomeIdx (anyK p zs n) w) := by
 have HF := Lib.hid hF
 have HC := Lib.hid hc
 clear hF hc
 go_enter Tryz.func80, Tryz.ntmps80
 go_wp2_with fail
 go_loop [8] (fun u => ∃ k : Nat, k ≤ n ∧ u = .int .i64 k ∧ Hid (anyK p zs k = false)) (fun u => n - (intOf u).toNat)
 case atStart => exact ⟨0, by omega, rfl, rfl⟩
 case round =>
  obtain ⟨k, hk, rfl, HK⟩ := hrel
  by_cases hlt : k < n
  ·obtain ⟨z, hz⟩ : ∃ z, zs[k]?.getD 0 = z := ⟨_, rfl⟩
   have hcell := HC.out k hlt
   rw [hz] at hcell
   have hk0 : (0 : Int) ≤ (k : Int) := by omega
   have hkn : (k : Int) < (n : Int) := by omega
   have hsucc : anyK p zs (k + 1) = (anyK p zs k || p (zs[k]?.getD 0)) := rfl
   rw [HK.out, hz, Bool.false_or] at hsucc
   have HZ := Lib.hid hz
   clear hz
   cases hp : p z
   ·rw [hp] at hsucc
    have HS := Lib.hid hsucc
    have HP := Lib.hid hp
    clear hsucc hp
    go_wp2_with fail
    refine (HF.out z).mono ?_
    rw [HP.out]
    rintro e w' ⟨rfl, rfl⟩
    go_wp2
    go_round
    case rel => exact ⟨k + 1, by omega, by go_num, HS⟩
    case measure => simp [intOf]; omega
   ·rw [hp] at hsucc
    have hall := Lib.hid (anyK_mono p zs (k + 1) n (by omega) hsucc)
    have HP := Lib.hid hp
    clear hsucc hp
    go_wp2_with fail
    refine (HF.out z).mono ?_
    rw [HP.out]
    rintro e w' ⟨rfl, rfl⟩
    go_wp2
    go_ret
    exact ⟨(k : Int), by rw [hall.out]; exact (decide_eq_true hk0).symm, rfl, rfl⟩
  ·obtain rfl : k = n := by omega
   go_wp2
   go_ret
   exact ⟨-1, by rw [HK.out]; rfl, rfl, rfl⟩

theorem sm_contains_at (F : FuncId) (caps : Array Value) (p : Int → Bool) (zs : List Int) (b off n cap : Nat) (r : Bool) (w : World)
  (hcf : ∀ (args : Array Value) (w : World), Sem.run Tryz.prog (callFunc F args) w = .ok (.enter F args) w)
  (hF : ∀ v, Calls Tryz.prog F (#[.int .i64 v] ++ caps) w fun e w' => e = .returned (.bool (p v)) ∧ w = w')
  (hn : n ≤ cap) (hcap : cap ≤ 9223372036854775807) (hc : ∀ i, i < n → w.cell? ⟨b, off + i, none⟩ = some (.int .i64 (zs[i]?.getD 0))) (hr : anyK p zs n = r) :
  Calls Tryz.prog 48 #[.slice (some ⟨b, off, none⟩) n cap, .func (.func F) #[] caps] w fun e w' => e = .returned (.bool r) ∧ w = w' := by
 have hi := sm_index_any F caps p zs b off n cap w hcf hF hn hcap hc
 rw [hr] at hi
 have HI := Lib.hid hi
 clear hi hF hc hcf hr
 go_enter Tryz.func48, Tryz.ntmps48
 go_wp2_with fail
 refine HI.out.mono ?_
 rintro e w' ⟨j, hj, rfl, rfl⟩
 have HJ := Lib.hid hj
 clear hj
 go_wp2
 go_ret
 rw [HJ.out]
 exact ⟨rfl, rfl⟩

def rightW (zs : List Int) (n : Nat) : Bool := decide (1 ≤ n ∧ n ≤ 16) && !(anyK (fun z => !plB z) zs n)

set_option maxRecDepth 100000 in
theorem sm_right_at (zs : List Int) (b off n cap : Nat) (r : Bool) (w : World) (hn : n ≤ cap) (hcap : cap ≤ 9223372036854775807) (hb : b < w.heap.size) (hc : ∀ i, i < n → w.cell? ⟨b, off + i, none⟩ = some (.int .i64 (zs[i]?.getD 0))) (hr : rightW zs n = r) :
  Calls Tryz.prog 24 #[.agg #[.slice (some ⟨b, off, none⟩) n cap]] w fun e w' => e = .returned (.bool r) ∧ Below w.heap.size w w' := by
 have HC := Lib.hid hc
 clear hc
 by_cases h1 : 1 ≤ n
 ·by_cases h2 : n ≤ 16
  ·have hr2 : (!(anyK (fun z => !plB z) zs n)) = r := by
    rw [← hr]
    unfold rightW
    rw [decide_eq_true ⟨h1, h2⟩]
    rfl
   obtain ⟨q, hq⟩ : ∃ q, anyK (fun z => !plB z) zs n = q := ⟨_, rfl⟩
   rw [hq] at hr2
   have HQ := Lib.hid hq
   have h1' : (1 : Int) ≤ (n : Int) := by omega
   have h2' : (n : Int) ≤ 16 := by omega
   subst hr2
   clear hr hq
   go_enter Tryz.func24, Tryz.ntmps24
   go_wp2_with fail
   refine (sm_contains_at 49 #[] (fun z => !plB z) zs b off n cap q _ cf_right1 (fun v => sm_right1_any v _) hn hcap (fun i hi => ?_) HQ.out).mono ?_
   ·have := HC.out i hi
    go_simp
   rintro e w1 ⟨rfl, rfl⟩
   go_wp2
   go_ret
   exact ⟨rfl, by exact belowBy⟩
  ·have hr2 : r = false := by
    rw [← hr]
    unfold rightW
    rw [decide_eq_false (fun h => h2 h.2)]
    rfl
   subst hr2
   have h1' : (1 : Int) ≤ (n : Int) := by omega
   have h2' : ¬ (n : Int) ≤ 16 := by omega
   clear hr
   go_enter Tryz.func24, Tryz.ntmps24
   go_wp2
   go_ret
   exact ⟨rfl, by exact belowBy⟩
 ·have hr2 : r = false := by
   rw [← hr]
   unfold rightW
   rw [decide_eq_false (fun h => h1 h.1)]
   rfl
  subst hr2
  obtain rfl : n = 0 := by omega
  clear hr
  go_enter Tryz.func24, Tryz.ntmps24
  go_wp2
  go_ret
  exact ⟨rfl, by exact belowBy⟩


theorem sm_right_nil (a : Option Addr) (cap : Nat) (w : World) : Calls Tryz.prog 24 #[.agg #[.slice a 0 cap]] w fun e w' => e = .returned (.bool false) ∧ Below w.heap.size w w' := by
 go_enter Tryz.func24, Tryz.ntmps24
 go_wp2
 go_ret
 exact ⟨rfl, by exact belowBy⟩

theorem rightW_yes {zs : List Int} {n : Nat} (h : rightW zs n = true) : 1 ≤ n ∧ n ≤ 16 ∧ ∀ i, i < n → -2199023255552 ≤ zs[i]?.getD 0 ∧ zs[i]?.getD 0 ≤ 2199023255552 := by
 simp only [rightW, Bool.and_eq_true, decide_eq_true_eq, Bool.not_eq_true'] at h
 refine ⟨h.1.1, h.1.2, fun i hi => ?_⟩
 have := anyK_no _ _ _ h.2 i hi
 simp only [Bool.not_eq_false'] at this
 exact plB_yes this
theorem rightW_mk {zs : List Int} {n : Nat} (h1 : 1 ≤ n ∧ n ≤ 16) (h : ∀ i, i < n → -2199023255552 ≤ zs[i]?.getD 0 ∧ zs[i]?.getD 0 ≤ 2199023255552) : rightW zs n = true := by
 simp only [rightW, Bool.and_eq_true, decide_eq_true_eq, Bool.not_eq_true']
 refine ⟨h1, anyK_of _ _ _ fun i hi => ?_⟩
 have : plB (zs[i]?.getD 0) = true := decide_eq_true (h i hi)
 simp [this]

def sumK (zs : List Int) : Nat → Int
 | 0 => 0
 | k + 1 => sumK zs k + zs[k]?.getD 0
theorem sumK_bd (zs : List Int) (n k : Nat) (h : ∀ i, i < n → -2199023255552 ≤ zs[i]?.getD 0 ∧ zs[i]?.getD 0 ≤ 2199023255552) (hk : k ≤ n) : -2199023255552 * (k : Int) ≤ sumK zs k ∧ sumK zs k ≤ 2199023255552 * (k : Int) := by
 induction k with
 | zero => exact ⟨by show -2199023255552 * (0 : Int) ≤ 0; omega, by show (0 : Int) ≤ 2199023255552 * 0; omega⟩
 | succ k ih =>
  have h1 := ih (by omega)
  have h2 := h k (by omega)
  have h3 : sumK zs (k + 1) = sumK zs k + zs[k]?.getD 0 := rfl
  rw [h3]
  omega

set_option maxRecDepth 100000 in
theorem sm_out_at (zs : List Int) (b off n cap : Nat) (x : Int) (w : World) (hn : n ≤ cap) (hcap : cap ≤ 9223372036854775807) (hb : b < w.heap.size) (hc : ∀ i, i < n → w.cell? ⟨b, off + i, none⟩ = some (.int .i64 (zs[i]?.getD 0))) (hr : rightW zs n = true) (hx : sumK zs n = x) :
  Calls Tryz.prog 47 #[.agg #[.slice (some ⟨b, off, none⟩) n cap]] w fun e w' => e = .returned (.int .i64 x) ∧ Below w.heap.size w w' := by
 have hy := rightW_yes hr
 have HY := Lib.hid hy.2.2
 have hnb : 1 ≤ n ∧ n ≤ 16 := ⟨hy.1, hy.2.1⟩
 have HC := Lib.hid hc
 have HR := Lib.hid hr
 have HX := Lib.hid hx
 clear hc hr hx hy
 go_enter Tryz.func47, Tryz.ntmps47
 go_wp2_with fail
 refine (sm_right_at zs b off n cap true _ hn hcap (by simp; omega) (fun i hi => ?_) HR.out).mono ?_
 ·have := HC.out i hi
  go_simp
 rintro e w1 ⟨rfl, hb1⟩
 obtain ⟨hb1c, hb1f⟩ := bcell hb1
 have hb1z := hb1.size
 have hb1c0 := fun o => hb1c (w.heap.size) o sideBy
 have hb1f0 := fun o => hb1f (w.heap.size) o sideBy
 have hb1l0 := below_lt (b := w.heap.size) hb1 sideBy
 have hb1c1 := fun o => hb1c (b) o sideBy
 have hb1f1 := fun o => hb1f (b) o sideBy
 have hb1l1 := below_lt (b := b) hb1 sideBy
 go_wp2_with fail
 have hB1 : Below w.heap.size w w1 := by exact belowBy
 have HC1 : Hid (∀ i, i < n → w1.cell? ⟨b, off + i, none⟩ = some (.int .i64 (zs[i]?.getD 0))) := fun i hi => by rw [hB1.cell hb]; exact HC.out i hi
 clear hb1c hb1f hb1z hb1c0 hb1f0 hb1l0 hb1c1 hb1f1 hb1l1 hb1 HC
 go_loop [3, 12] (fun u v => ∃ k : Nat, k ≤ n ∧ u = .int .i64 (sumK zs k) ∧ v = .int .i64 k) (fun _ v => n - (intOf v).toNat)
 case atStart => exact ⟨0, by omega, rfl, rfl⟩
 case round =>
  obtain ⟨k, hk, rfl, rfl⟩ := hrel
  by_cases hlt : k < n
  ·obtain ⟨z, hz⟩ : ∃ z, zs[k]?.getD 0 = z := ⟨_, rfl⟩
   have hcell := HC1.out k hlt
   have hzb := HY.out k hlt
   rw [hz] at hcell hzb
   have hk0 : (0 : Int) ≤ (k : Int) := by omega
   have hkn : (k : Int) < (n : Int) := by omega
   have hsb := sumK_bd zs n k HY.out (by omega)
   have hs : sumK zs (k + 1) = sumK zs k + z := by rw [← hz]; rfl
   have HS := Lib.hid hs
   clear hz hs
   go_wp2
   go_round
   case rel => exact ⟨k + 1, by omega, by rw [HS.out], by go_num⟩
   case measure => simp [intOf]; omega
  ·obtain rfl : k = n := by omega
   go_wp2
   go_ret
   rw [HX.out]
   exact ⟨rfl, hB1⟩

theorem sm_rest1_at (z z0 : Int) (B b off n cap : Nat) (w : World) (hpos : 0 < n) (hn : n ≤ cap) (hcap : cap ≤ 9223372036854775807) (hB : w.cell? ⟨B, 0, none⟩ = some (.slice (some ⟨b, off, none⟩) n cap)) (h0 : w.cell? ⟨b, off, none⟩ = some (.int .i64 z0)) :
  Calls Tryz.prog 108 #[.int .i64 z, .pointer (some ⟨B, 0, none⟩)] w fun e w' => e = .returned (.bool (z != z0)) ∧ w = w' := by
 have hposI : (0 : Int) < (n : Int) := by omega
 go_enter Tryz.func108, Tryz.ntmps108
 go_wp2
 go_ret
 exact ⟨rfl, rfl⟩

def restW (zs : List Int) (n : Nat) : Bool := rightW zs n && !(anyK (fun z => z != zs[0]?.getD 0) zs n)

set_option maxRecDepth 100000 in
theorem sm_rest_at (zs : List Int) (b off n cap : Nat) (r : Bool) (w : World) (hn : n ≤ cap) (hcap : cap ≤ 9223372036854775807) (hb : b < w.heap.size) (hc : ∀ i, i < n → w.cell? ⟨b, off + i, none⟩ = some (.int .i64 (zs[i]?.getD 0))) (hr : restW zs n = r) :
  Calls Tryz.prog 85 #[.agg #[.slice (some ⟨b, off, none⟩) n cap]] w fun e w' => e = .returned (.bool r) ∧ Below w.heap.size w w' := by
 have HC := Lib.hid hc
 clear hc
 cases hR : rightW zs n
 ·have hr2 : r = false := by rw [← hr]; unfold restW; rw [hR]; rfl
  subst hr2
  have HR := Lib.hid hR
  clear hR hr
  go_enter Tryz.func85, Tryz.ntmps85
  go_wp2_with fail
  refine (sm_right_at zs b off n cap false _ hn hcap (by simp; omega) (fun i hi => ?_) HR.out).mono ?_
  ·have := HC.out i hi
   go_simp
  rintro e w1 ⟨rfl, hb1⟩
  go_wp2
  go_ret
  exact ⟨rfl, by exact belowBy⟩
 ·have hy := rightW_yes hR
  have hnb : 1 ≤ n ∧ n ≤ 16 := ⟨hy.1, hy.2.1⟩
  obtain ⟨z0, hz0⟩ : ∃ z0, zs[0]?.getD 0 = z0 := ⟨_, rfl⟩
  obtain ⟨q, hq⟩ : ∃ q, anyK (fun z => z != z0) zs n = q := ⟨_, rfl⟩
  have hr2 : (!q) = r := by rw [← hr, ← hq, ← hz0]; unfold restW; rw [hR]; rfl
  have h0 := HC.out 0 (by omega)
  rw [hz0, Nat.add_zero] at h0
  have HQ := Lib.hid hq
  have HR := Lib.hid hR
  subst hr2
  clear hR hr hy hq hz0
  go_enter Tryz.func85, Tryz.ntmps85
  go_wp2_with fail
  refine (sm_right_at zs b off n cap true _ hn hcap (by simp; omega) (fun i hi => ?_) HR.out).mono ?_
  ·have := HC.out i hi
   go_simp
  rintro e w1 ⟨rfl, hb1⟩
  obtain ⟨hb1c, hb1f⟩ := bcell hb1
  have hb1z := hb1.size
  have hb1c0 := fun o => hb1c (w.heap.size) o sideBy
  have hb1f0 := fun o => hb1f (w.heap.size) o sideBy
  have hb1l0 := below_lt (b := w.heap.size) hb1 sideBy
  have hb1c1 := fun o => hb1c (b) o sideBy
  have hb1f1 := fun o => hb1f (b) o sideBy
  have hb1l1 := below_lt (b := b) hb1 sideBy
  have hB1 : Below w.heap.size w w1 := by exact belowBy
  go_wp2_with fail
  refine (sm_contains_at 108 #[.pointer (some ⟨w.heap.size, 0, none⟩)] (fun z => z != z0) zs b off n cap q _ cf_rest1 (fun v => sm_rest1_at v z0 _ b off n cap _ (by omega) hn hcap ?_ ?_) hn hcap (fun i hi => ?_) HQ.out).mono ?_
  ·go_simp
  ·go_simp
  ·rw [hB1.cell hb]
   exact HC.out i hi
  rintro e w2 ⟨rfl, rfl⟩
  go_wp2
  go_ret
  exact ⟨rfl, by exact belowBy⟩

end Go.Proofs.YthhfnageadckkaaGreat

namespace Go.Proofs.YthhfnageadckkaaGreat
open Go.RowKit

section
variable {P : Program} {ops : Array Oper} {C : World → Prop} {n : Nat}

end


def Keeps (S : World → Prop) : Prop := ∀ w w', S w → Below w.heap.size w w' → S w'
structure ExtS (W : World) (S : World → Prop) where
 w : World
 h : Below W.heap.size W w
 s : S w
def extS {W : World} {S : World → Prop} (x : ExtS W S) : World := x.1
def CS (W : World) (S : World → Prop) (w' : World) : Prop := ∃ x : ExtS W S, w' = extS x
theorem extS_cell {W : World} {S : World → Prop} (x : ExtS W S) (b o : Nat) (h : b < W.heap.size) : (extS x).cell? ⟨b, o, none⟩ = W.cell? ⟨b, o, none⟩ := x.2.cell (p := ⟨b, o, none⟩) h
theorem extS_frozen {W : World} {S : World → Prop} (x : ExtS W S) (b o : Nat) (h : b < W.heap.size) : (extS x).frozen? ⟨b, o, none⟩ = W.frozen? ⟨b, o, none⟩ := x.2.frozen (p := ⟨b, o, none⟩) h
section
variable {P : Program} {ops : Array Oper} {C : World → Prop}

def dstOf (ops : Array Oper) (i : Nat) : Option Tmp := (ops[i]?).bind (·.dst)
theorem put_other {a : Act} {x : Option Tmp} {d : Tmp} {v : Value} (h : x ≠ some d) : (a.put x v).tmps[d]? = a.tmps[d]? := by
 cases x with
 | none => rfl
 | some e =>
  have : e ≠ d := fun he => h (by rw [he])
  simp [Act.put, Array.getElem?_setIfInBounds, this]

end

theorem heap_cell {w : World} {p : Nat} {vs : Array Value} {T : TypeId} (i : Nat) (v : Value) (h : w.heap[p]? = some (.cells vs T)) (hv : vs[i]? = some v) : w.cell? ⟨p, i, none⟩ = some v := by
 unfold World.cell?
 simp [h, hv]
theorem heap_free {w : World} {p : Nat} {vs : Array Value} {T : TypeId} (i : Nat) (h : w.heap[p]? = some (.cells vs T)) : w.frozen? ⟨p, i, none⟩ = false := by
 unfold World.frozen?
 simp [h]

end Go.Proofs.YthhfnageadckkaaGreat

namespace Go.Proofs.YthhfnageadckkaaGreat
open Go.RowKit
attribute [local go_sem] ite_max ite_min vite_max vite_min ext_cell ext_frozen

def curK (pos : Int) (m n : Nat) : List Value := List.replicate n (.int .i64 pos) ++ List.replicate (m - n) (.int .i64 0)
theorem curK_len (pos : Int) (m n : Nat) (h : n ≤ m) : (curK pos m n).length = m := by simp [curK]; omega
theorem curK_splice (pos : Int) (m n k : Nat) (h : n + k ≤ m) : splice (curK pos m n) n (List.replicate k (.int .i64 pos)) = curK pos m (n + k) := by
 unfold splice curK
 rw [List.take_left' (by simp), List.length_replicate, List.drop_append, List.drop_replicate, List.length_replicate, List.drop_replicate, ← List.append_assoc, ← List.append_assoc, List.replicate_append_replicate, show n - (n + k) = 0 by omega]
 simp
 omega
theorem made_zero (m : Nat) : madeCells #[Value.int .i64 0] m = (curK 0 m 0).toArray := by
 apply Array.ext
 ·simp [madeCells, curK]
 ·intro i h1 h2
  simp [madeCells, curK, Nat.mod_one]

theorem mk_slice (m : Nat) (hm : m ≤ 16) (w : World) : (Instr.makeSlice 26 (.int .i64 (m : Int)) (.int .i64 (m : Int))).run Tryz.prog w = .ok (.slice (some ⟨w.heap.size, 0, none⟩) m m) (w.alloc (.cells (curK 0 m 0).toArray 2)) := by
 have hinf : (Tryz.prog.info? 2).map (fun i => (i.zero, i.size, i.bytes)) = some (some (.int .i64 0), 1, 8) := by kernel_rfl
 obtain ⟨i, hi, hz, hs, hb⟩ := info_parts hinf
 have h := run_make (P := Tryz.prog) w 26 2 i (.int .i64 0) Tryz.underlying26 hi hz .i64 .i64 (m : Int) (m : Int) (by omega) (by omega) (by rw [hb]; omega) (by omega)
 rw [h, hs]
 simp only [Int.toNat_natCast, Nat.mul_one]
 rw [show (Value.int IntKind.i64 0).cells = #[Value.int .i64 0] from rfl, made_zero]

theorem mulu_at (x y hi lo : Int) (w : World) (hx : 0 ≤ x ∧ x ≤ 18446744073709551615) (hy : 0 ≤ y ∧ y ≤ 18446744073709551615) (h1 : x * y / 18446744073709551616 = hi) (h2 : x * y % 18446744073709551616 = lo) :
  Calls Tryz.prog 104 #[.int .u64 x, .int .u64 y] w fun e w' => e = .returned (.tuple #[.int .u64 hi, .int .u64 lo]) ∧ w = w' := by
 obtain ⟨a, rfl⟩ := Int.eq_ofNat_of_zero_le hx.1
 obtain ⟨b, rfl⟩ := Int.eq_ofNat_of_zero_le hy.1
 refine (Tryz.bits_Mul a b (by omega) (by omega) w).mono ?_
 rintro e w' ⟨rfl, rfl⟩
 subst h1
 subst h2
 refine ⟨?_, rfl⟩
 simp

set_option maxRecDepth 100000 in
theorem sm_repeat_at (pos : Int) (m b off cap : Nat) (w : World) (hm : 1 ≤ m ∧ m ≤ 16) (hcap : 1 ≤ cap ∧ cap ≤ 9223372036854775807) (hb : b < w.heap.size) (hc : w.cell? ⟨b, off, none⟩ = some (.int .i64 pos)) :
  Calls Tryz.prog 77 #[.slice (some ⟨b, off, none⟩) 1 cap, .int .i64 (m : Int)] w fun e w' => e = .returned (.slice (some ⟨w.heap.size, 0, none⟩) m m) ∧ Below w.heap.size w w' ∧ Hid (w'.heap[w.heap.size]? = some (.cells (curK pos m m).toArray 2)) := by
 have hmI : (1 : Int) ≤ (m : Int) ∧ (m : Int) ≤ 16 := by omega
 have hmk := mk_slice m hm.2
 go_enter Tryz.func77, Tryz.ntmps77
 go_wp2_with fail
 refine (mulu_at 1 m 0 m _ (by omega) (by omega) (by omega) (by omega)).mono ?_
 rintro e w1 ⟨rfl, rfl⟩
 go_wp2_with (with_reducible refine wpList_copy_splice rfl _ _ _ _ rfl 2 Tryz.underlying26 (by kernel_rfl) _ _ _ _ _ _ rfl rfl w.heap.size 0 (curK 0 m 0) 2 ?_ [.int .i64 pos] ?_ ?_ ?_ ?_ w.heap.size w ?_ ?_ ?_)
 ·show (w.heap.push _)[w.heap.size]? = _
  simp
 ·exact (Nat.min_eq_left hm.1).symm
 ·intro j v hj
  cases j with
  | zero =>
   simp at hj
   rw [← hj]
   exact hc
  | succ j => simp at hj
 ·rw [curK_len 0 m 0 (by omega)]
  simp
  omega
 ·intro v hv
  simp at hv
  rw [hv]
  rfl
 ·exact below_new (Below.refl _ _) (Nat.le_refl _) _
 ·exact Nat.le_refl _
 intro w2 hw2 hb2
 have hsp : splice (curK 0 m 0) 0 [Value.int .i64 pos] = curK pos m 1 := by
  have := curK_splice pos m 0 1 (by omega)
  exact this
 rw [hsp] at hw2
 clear hsp hmk
 go_wp2_with fail
 go_loopw [8] (fun u w' => ∃ n : Nat, 1 ≤ n ∧ n ≤ m ∧ u = .int .i64 (n : Int) ∧ Hid (w'.heap[w.heap.size]? = some (.cells (curK pos m n).toArray 2)) ∧ Below w.heap.size w w') (fun u _ => m - (intOf u).toNat)
 case atStart => exact ⟨1, by omega, by omega, rfl, hw2, hb2⟩
 case round =>
  obtain ⟨n, hn1, hnm, rfl, HW, hbr⟩ := hrel
  clear hw2 hb2
  by_cases hlt : n < m
  ·have hnI : (1 : Int) ≤ (n : Int) ∧ (n : Int) < (m : Int) := by omega
   go_wp2_with fail
   obtain ⟨k, hk⟩ : ∃ k, min n (m - n) = k := ⟨_, rfl⟩
   have hkb : 1 ≤ k ∧ k ≤ n ∧ n + k ≤ m := by omega
   have hlen : (List.replicate k (Value.int .i64 pos)).length = Nat.min n (m - n) := by
    rw [List.length_replicate]
    exact hk.symm
   have hsrc : 0 < (List.replicate k (Value.int .i64 pos)).length → some (⟨w.heap.size, n, none⟩ : Addr) = some ⟨w.heap.size, n, none⟩ ∧ ∃ ad, some (⟨w.heap.size, 0, none⟩ : Addr) = some ad ∧ ∀ j v, (List.replicate k (Value.int .i64 pos))[j]? = some v → wr.drew.cell? (ad.add j) = some v := by
    refine fun _ => ⟨rfl, _, rfl, fun j v hj => ?_⟩
    have hjk : j < k := by
     have := (List.getElem?_eq_some_iff.1 hj).1
     simpa using this
    have hv : v = .int .i64 pos := by
     rw [List.getElem?_replicate, if_pos hjk] at hj
     exact (Option.some.inj hj).symm
    have hw : wr.drew.heap[w.heap.size]? = some (.cells (curK pos m n).toArray 2) := HW.out
    have had : (⟨w.heap.size, 0, none⟩ : Addr).add j = ⟨w.heap.size, j, none⟩ := by cases j <;> simp [Addr.add]
    rw [had, hv]
    refine heap_cell j _ hw ?_
    rw [List.getElem?_toArray]
    unfold curK
    rw [List.getElem?_append_left (by simp; omega), List.getElem?_replicate, if_pos (by omega)]
   have hfit : n + (List.replicate k (Value.int .i64 pos)).length ≤ (curK pos m n).length := by rw [curK_len pos m n hnm, List.length_replicate]; omega
   have hone : ∀ v ∈ List.replicate k (Value.int .i64 pos), v.oneCell' = true := by
    intro v hv
    rw [(List.mem_replicate.1 hv).2]
    rfl
   have HLEN := Lib.hid hlen
   have HSRC := Lib.hid hsrc
   have HFIT := Lib.hid hfit
   have HONE := Lib.hid hone
   clear hlen hsrc hfit hone hk
   have hmn : ¬ m = n := by omega
   go_region_law ((refine step_copy_splice (by rfl) (.tmp 41) (.tmp 44) 26 26 (by rfl) 2 Tryz.underlying26 (by kernel_rfl) (some ⟨w.heap.size, n, none⟩) (some ⟨w.heap.size, 0, none⟩) (m - n) (m - n) n m (by go_simp) (by go_simp) w.heap.size n (curK pos m n) 2 HW.out (List.replicate k (.int .i64 pos)) HLEN.out HSRC.out HFIT.out HONE.out w.heap.size w hbr.drew (Nat.le_refl _) ?_; intro w4 hg4 hb4))
   rw [curK_splice pos m n k (by omega)] at hg4
   have HG := Lib.hid hg4
   clear hg4
   have hwr : IntKind.i64.wrap ((n : Int) + (k : Int)) = (n : Int) + (k : Int) := by
    rw [IntKind.wrap_i64]
    omega
   go_wp2
   go_roundw
   case rel => exact ⟨n + k, by omega, by omega, by go_num, HG⟩
   case measure => simp [intOf]; omega
  ·obtain rfl : n = m := by omega
   go_wp2
   go_ret
   exact ⟨rfl, hbr, HW⟩


set_option maxRecDepth 100000 in
theorem sm_new_at (pos : Int) (m : Nat) (w : World) (hm : 1 ≤ m ∧ m ≤ 16) (hp : plB pos = true) : Calls Tryz.prog 38 #[.int .i64 (m : Int), .int .i64 pos] w fun e w' => ∃ b, e = .returned (.tuple #[.agg #[.slice (some ⟨b, 0, none⟩) m m], .int .i64 0]) ∧ w.heap.size ≤ b ∧ Below w.heap.size w w' ∧ Hid (w'.heap[b]? = some (.cells (curK pos m m).toArray 2)) := by
 have hm1 : (1 : Int) ≤ (m : Int) ∧ (m : Int) ≤ 16 := by omega
 have HP := Lib.hid hp
 clear hp
 go_enter Tryz.func38, Tryz.ntmps38
 go_wp2_with fail
 refine (sm_place_any pos _).mono ?_
 rw [HP.out]
 rintro e w1 ⟨rfl, rfl⟩
 go_wp2_with fail
 refine (sm_repeat_at pos m _ 0 1 _ hm (by omega) ?_ ?_).mono ?_
 ·go_simp
 ·go_simp
 rintro e w2 ⟨rfl, hb2, hc2⟩
 have hc3 : Hid (w2.heap[w.heap.size + 1 + 1]? = some (.cells (curK pos m m).toArray 2)) := Lib.hid (by simpa using hc2.out)
 clear hc2
 obtain ⟨hb2c, hb2f⟩ := bcell hb2
 have hb2z := hb2.size
 have hb2c0 := fun o => hb2c (w.heap.size) o sideBy
 have hb2f0 := fun o => hb2f (w.heap.size) o sideBy
 have hb2l0 := below_lt (b := w.heap.size) hb2 sideBy
 go_wp2
 exact bodyPost_ret (v := .tuple #[.agg #[.slice (some ⟨w.heap.size + 1 + 1, 0, none⟩) m m], .int .i64 0]) (by simp [results, Tryz.results38, go_sem, hb2c0]) rfl ⟨_, rfl, by omega, by exact belowBy, Lib.hid (by rw [Below.heap_setCell _ _ _ _ (by show w.heap.size + 1 + 1 ≠ w.heap.size; omega)]; exact hc3.out)⟩

set_option maxRecDepth 100000 in
theorem sm_new_no (pos : Int) (m : Int) (w : World) (hn : (decide (1 ≤ m ∧ m ≤ 16) && plB pos) = false) : Calls Tryz.prog 38 #[.int .i64 m, .int .i64 pos] w fun e w' => e = .returned (.tuple #[.agg #[.slice none 0 0], .int .i64 1]) ∧ Below w.heap.size w w' := by
 by_cases h1 : 1 ≤ m
 ·by_cases h2 : m ≤ 16
  ·have hp : plB pos = false := by simpa [h1, h2] using hn
   have HP := Lib.hid hp
   clear hp hn
   go_enter Tryz.func38, Tryz.ntmps38
   go_wp2_with fail
   refine (sm_place_any pos _).mono ?_
   rw [HP.out]
   rintro e w1 ⟨rfl, rfl⟩
   go_wp2
   exact bodyPost_ret (v := .tuple #[.agg #[.slice none 0 0], .int .i64 1]) (by simp [results, Tryz.results38, go_sem]) rfl ⟨rfl, by exact belowBy⟩
  ·clear hn
   go_enter Tryz.func38, Tryz.ntmps38
   go_wp2
   exact bodyPost_ret (v := .tuple #[.agg #[.slice none 0 0], .int .i64 1]) (by simp [results, Tryz.results38, go_sem]) rfl ⟨rfl, by exact belowBy⟩
 ·clear hn
  have h2 : m < 1 := by omega
  go_enter Tryz.func38, Tryz.ntmps38
  go_wp2
  exact bodyPost_ret (v := .tuple #[.agg #[.slice none 0 0], .int .i64 1]) (by simp [results, Tryz.results38, go_sem]) rfl ⟨rfl, by exact belowBy⟩

end Go.Proofs.YthhfnageadckkaaGreat
