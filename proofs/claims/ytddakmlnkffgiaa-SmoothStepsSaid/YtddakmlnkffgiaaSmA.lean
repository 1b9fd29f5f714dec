/- Contracts of layer 10: what contains a number that a function tells; is it a window? -/
import Derived.Test.YtddakmlnkffgiaaBase
import Derived.Test.YtddakmlnkffgiaaExt
import Derived.Test.YtddakmlnkffgiaaFrame
namespace Go.Proofs.Ytddakmlnkffgiaa
open Go.RowKit
set_option linter.unusedVariables false
set_option linter.unusedSimpArgs false
attribute [local go_sem] ite_max ite_min vite_max vite_min ext_cell ext_frozen

/-- may a number be a place? -/
def plB (n : Int) : Bool := decide (-2199023255552 ≤ n ∧ n ≤ 2199023255552)
theorem plB_yes {n : Int} (h : plB n = true) : -2199023255552 ≤ n ∧ n ≤ 2199023255552 := of_decide_eq_true h
/-- does a function tell one of the first k numbers? -/
def anyK (p : Int → Bool) (zs : List Int) : Nat → Bool
  | 0 => false
  | k + 1 => anyK p zs k || p (zs[k]?.getD 0)
theorem anyK_mono (p : Int → Bool) (zs : List Int) (k m : Nat) (h : k ≤ m) (hk : anyK p zs k = true) : anyK p zs m = true := by
  induction m with
  | zero =>
    obtain rfl : k = 0 := by omega
    exact hk
  | succ m ih =>
    by_cases c : k = m + 1
    · subst c
      exact hk
    · show (anyK p zs m || _) = true
      rw [ih (by omega)]
      rfl
theorem anyK_no (p : Int → Bool) (zs : List Int) (m : Nat) (h : anyK p zs m = false) (i : Nat) (hi : i < m) : p (zs[i]?.getD 0) = false := by
  cases hp : p (zs[i]?.getD 0)
  · rfl
  · have : anyK p zs (i + 1) = true := by
      show (anyK p zs i || p (zs[i]?.getD 0)) = true
      rw [hp, Bool.or_true]
    rw [anyK_mono p zs (i + 1) m (by omega) this] at h
    cases h
theorem anyK_of (p : Int → Bool) (zs : List Int) (m : Nat) (h : ∀ i, i < m → p (zs[i]?.getD 0) = false) : anyK p zs m = false := by
  induction m with
  | zero => rfl
  | succ m ih =>
    show (anyK p zs m || p (zs[m]?.getD 0)) = false
    rw [ih (fun i hi => h i (by omega)), h m (by omega)]
    rfl

set_option maxHeartbeats 1000000 in
theorem sm_place_any (n : Int) (w : World) : Calls Try.prog 62 #[.int .i64 n] w fun e w' => e = .returned (.bool (plB n)) ∧ w = w' := by
  by_cases h1 : -2199023255552 ≤ n
  · go_enter Try.func62, Try.ntmps62
    go_wp2
    go_ret
    exact ⟨by simp [h1, plB], rfl⟩
  · have hp : plB n = false := decide_eq_false (by omega)
    have h2 : decide (-2199023255552 ≤ n) = false := decide_eq_false h1
    have HP := Lib.hid hp
    clear hp h1
    go_enter Try.func62, Try.ntmps62
    go_wp2
    go_ret
    rw [HP.out]
    exact ⟨rfl, rfl⟩

set_option maxHeartbeats 1000000 in
theorem sm_right1_any (n : Int) (w : World) : Calls Try.prog 67 #[.int .i64 n] w fun e w' => e = .returned (.bool (!plB n)) ∧ w = w' := by
  go_enter Try.func67, Try.ntmps67
  go_wp2_with (first | (go_at_call 62; refine (sm_place_any _ _).mono ?_; rintro e w' ⟨rfl, rfl⟩))
  go_ret
  exact ⟨rfl, rfl⟩

theorem cf_right1 (args : Array Value) (w : World) : Sem.run Try.prog (callFunc 67 args) w = .ok (.enter 67 args) w := by
  go_simp
theorem cf_rest1 (args : Array Value) (w : World) : Sem.run Try.prog (callFunc 66 args) w = .ok (.enter 66 args) w := by
  go_simp

/-- an index of some number, or -1 -/
def SomeIdx (b : Bool) (w : World) (e : Ending) (w' : World) : Prop := ∃ j : Int, (b = decide (0 ≤ j)) ∧ e = .returned (.int .i64 j) ∧ w = w'

set_option maxHeartbeats 2000000 in
theorem sm_index_any (F : FuncId) (caps : Array Value) (p : Int → Bool) (zs : List Int) (b off n cap : Nat) (w : World)
    (hcf : ∀ (args : Array Value) (w : World), Sem.run Try.prog (callFunc F args) w = .ok (.enter F args) w)
    (hF : ∀ v, Calls Try.prog F (#[.int .i64 v] ++ caps) w fun e w' => e = .returned (.bool (p v)) ∧ w = w')
    (hn : n ≤ cap) (hcap : cap ≤ 9223372036854775807) (hc : ∀ i, i < n → w.cell? ⟨b, off + i, none⟩ = some (.int .i64 (zs[i]?.getD 0))) :
    Calls Try.prog 72 #[.slice (some ⟨b, off, none⟩) n cap, .func (.func F) #[] caps] w (SomeIdx (anyK p zs n) w) := by
  have HF := Lib.hid hF
  have HC := Lib.hid hc
  clear hF hc
  go_enter Try.func72, Try.ntmps72
  go_wp2_with fail
  go_loop [8] (fun u => ∃ k : Nat, k ≤ n ∧ u = .int .i64 k ∧ Hid (anyK p zs k = false)) (fun u => n - (intOf u).toNat)
  case atStart => exact ⟨0, by omega, rfl, rfl⟩
  case round =>
    obtain ⟨k, hk, rfl, HK⟩ := hrel
    by_cases hlt : k < n
    · obtain ⟨z, hz⟩ : ∃ z, zs[k]?.getD 0 = z := ⟨_, rfl⟩
      have hcell := HC.out k hlt
      rw [hz] at hcell
      have hk0 : (0 : Int) ≤ (k : Int) := by omega
      have hkn : (k : Int) < (n : Int) := by omega
      have hsucc : anyK p zs (k + 1) = (anyK p zs k || p (zs[k]?.getD 0)) := rfl
      rw [HK.out, hz, Bool.false_or] at hsucc
      have HZ := Lib.hid hz
      clear hz
      cases hp : p z
      · rw [hp] at hsucc
        have HS := Lib.hid hsucc
        have HP := Lib.hid hp
        clear hsucc hp
        go_wp2_with fail
        refine (HF.out z).mono ?_
        rw [HP.out]
        rintro e w' ⟨rfl, rfl⟩
        go_wp2
        go_round
        case rel => exact ⟨k + 1, by omega, by go_num, HS⟩
        case measure => simp [intOf]; omega
      · rw [hp] at hsucc
        have hall := Lib.hid (anyK_mono p zs (k + 1) n (by omega) hsucc)
        have HP := Lib.hid hp
        clear hsucc hp
        go_wp2_with fail
        refine (HF.out z).mono ?_
        rw [HP.out]
        rintro e w' ⟨rfl, rfl⟩
        go_wp2
        go_ret
        exact ⟨(k : Int), by rw [hall.out]; exact (decide_eq_true hk0).symm, rfl, rfl⟩
    · obtain rfl : k = n := by omega
      go_wp2
      go_ret
      exact ⟨-1, by rw [HK.out]; rfl, rfl, rfl⟩

set_option maxHeartbeats 1000000 in
theorem sm_contains_at (F : FuncId) (caps : Array Value) (p : Int → Bool) (zs : List Int) (b off n cap : Nat) (r : Bool) (w : World)
    (hcf : ∀ (args : Array Value) (w : World), Sem.run Try.prog (callFunc F args) w = .ok (.enter F args) w)
    (hF : ∀ v, Calls Try.prog F (#[.int .i64 v] ++ caps) w fun e w' => e = .returned (.bool (p v)) ∧ w = w')
    (hn : n ≤ cap) (hcap : cap ≤ 9223372036854775807) (hc : ∀ i, i < n → w.cell? ⟨b, off + i, none⟩ = some (.int .i64 (zs[i]?.getD 0))) (hr : anyK p zs n = r) :
    Calls Try.prog 65 #[.slice (some ⟨b, off, none⟩) n cap, .func (.func F) #[] caps] w fun e w' => e = .returned (.bool r) ∧ w = w' := by
  have hi := sm_index_any F caps p zs b off n cap w hcf hF hn hcap hc
  rw [hr] at hi
  have HI := Lib.hid hi
  clear hi hF hc hcf hr
  go_enter Try.func65, Try.ntmps65
  go_wp2_with fail
  refine HI.out.mono ?_
  rintro e w' ⟨j, hj, rfl, rfl⟩
  have HJ := Lib.hid hj
  clear hj
  go_wp2
  go_ret
  rw [HJ.out]
  exact ⟨rfl, rfl⟩

/-- is it a window? -/
def rightW (zs : List Int) (n : Nat) : Bool := decide (1 ≤ n ∧ n ≤ 16) && !(anyK (fun z => !plB z) zs n)

set_option maxRecDepth 100000 in
set_option maxHeartbeats 2000000 in
theorem sm_right_at (zs : List Int) (b off n cap : Nat) (r : Bool) (w : World) (hn : n ≤ cap) (hcap : cap ≤ 9223372036854775807) (hb : b < w.heap.size) (hc : ∀ i, i < n → w.cell? ⟨b, off + i, none⟩ = some (.int .i64 (zs[i]?.getD 0))) (hr : rightW zs n = r) :
    Calls Try.prog 50 #[.agg #[.slice (some ⟨b, off, none⟩) n cap]] w fun e w' => e = .returned (.bool r) ∧ Below w.heap.size w w' := by
  have HC := Lib.hid hc
  clear hc
  by_cases h1 : 1 ≤ n
  · by_cases h2 : n ≤ 16
    · have hr2 : (!(anyK (fun z => !plB z) zs n)) = r := by
        rw [← hr]
        unfold rightW
        rw [decide_eq_true ⟨h1, h2⟩]
        rfl
      obtain ⟨q, hq⟩ : ∃ q, anyK (fun z => !plB z) zs n = q := ⟨_, rfl⟩
      rw [hq] at hr2
      have HQ := Lib.hid hq
      have h1' : (1 : Int) ≤ (n : Int) := by omega
      have h2' : (n : Int) ≤ 16 := by omega
      subst hr2
      clear hr hq
      go_enter Try.func50, Try.ntmps50
      go_wp2_with fail
      refine (sm_contains_at 67 #[] (fun z => !plB z) zs b off n cap q _ cf_right1 (fun v => sm_right1_any v _) hn hcap (fun i hi => ?_) HQ.out).mono ?_
      · have := HC.out i hi
        go_simp
      rintro e w1 ⟨rfl, rfl⟩
      go_wp2
      go_ret
      exact ⟨rfl, by (repeat' (first | (with_reducible exact Below.refl _ _) | (with_reducible assumption) | (with_reducible refine below_drewN ?_ _) | (with_reducible refine Below.drew ?_) | (with_reducible refine below_new ?_ (Nat.le_refl _) _) | (with_reducible refine Below.setCell ?_ ?_ _) | (with_reducible refine below_go ?_ (by assumption) (Nat.le_refl _)) | (simp; done) | (simp; omega) | omega))⟩
    · have hr2 : r = false := by
        rw [← hr]
        unfold rightW
        rw [decide_eq_false (fun h => h2 h.2)]
        rfl
      subst hr2
      have h1' : (1 : Int) ≤ (n : Int) := by omega
      have h2' : ¬ (n : Int) ≤ 16 := by omega
      clear hr
      go_enter Try.func50, Try.ntmps50
      go_wp2
      go_ret
      exact ⟨rfl, by (repeat' (first | (with_reducible exact Below.refl _ _) | (with_reducible assumption) | (with_reducible refine below_drewN ?_ _) | (with_reducible refine Below.drew ?_) | (with_reducible refine below_new ?_ (Nat.le_refl _) _) | (with_reducible refine Below.setCell ?_ ?_ _) | (with_reducible refine below_go ?_ (by assumption) (Nat.le_refl _)) | (simp; done) | (simp; omega) | omega))⟩
  · have hr2 : r = false := by
      rw [← hr]
      unfold rightW
      rw [decide_eq_false (fun h => h1 h.1)]
      rfl
    subst hr2
    obtain rfl : n = 0 := by omega
    clear hr
    go_enter Try.func50, Try.ntmps50
    go_wp2
    go_ret
    exact ⟨rfl, by (repeat' (first | (with_reducible exact Below.refl _ _) | (with_reducible assumption) | (with_reducible refine below_drewN ?_ _) | (with_reducible refine Below.drew ?_) | (with_reducible refine below_new ?_ (Nat.le_refl _) _) | (with_reducible refine Below.setCell ?_ ?_ _) | (with_reducible refine below_go ?_ (by assumption) (Nat.le_refl _)) | (simp; done) | (simp; omega) | omega))⟩

end Go.Proofs.Ytddakmlnkffgiaa
