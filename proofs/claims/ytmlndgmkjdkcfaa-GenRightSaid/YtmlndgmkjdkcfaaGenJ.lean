/- Layer 9: GenStops, of right limits and a safe generator. -/
import Derived.Test.YtmlndgmkjdkcfaaGenG
import Derived.Test.YtmlndgmkjdkcfaaPGenG
import Derived.Test.YtmlndgmkjdkcfaaFresh
namespace Go.Proofs.Ytmlndgmkjdkcfaa
open Go.ChangeShapes Go.WideShapes Go.ChangeAt Go.RowKit
set_option linter.unusedVariables false
set_option linter.unusedSimpArgs false
attribute [local go_sem] ite_max ite_min vite_max vite_min ite_max0 vite_max0 ext_cell ext_frozen extS_cell extS_frozen

theorem gcycles_at (v d c : Int) (w : World) (hv : 0 ≤ v ∧ v ≤ 1048576) (hd : 1 ≤ d ∧ d ≤ 1048576) (h : cyc v d = c) :
    Calls Try.prog 20 #[.int .i64 v, .int .i64 d] w fun e w' => e = .returned (.int .i64 c) ∧ w = w' := by
  have := cycles_any v d w
  rw [spd_id v hv, lss_id d hd] at this
  subst h
  exact this
theorem gway_at (v d c : Int) (w : World) (hv : 0 ≤ v ∧ v ≤ 1048576) (hd : 1 ≤ d ∧ d ≤ 1048576) (h : slw v 0 d = c) :
    Calls Try.prog 19 #[.int .i64 v, .int .i64 d] w fun e w' => e = .returned (.int .i64 c) ∧ w = w' := by
  subst h
  exact Way_sl v d w hv hd
theorem glanded_at (p v t : Int) (w : World) (b : Bool) (h : ((p == t) && (v == 0)) = b) : Calls Try.prog 31 #[.agg #[.int .i64 p, .int .i64 v], .int .i64 t] w fun e w' => e = .returned (.bool b) ∧ Below w.heap.size w w' := by
  subst h
  exact glanded_any p v t w

set_option maxRecDepth 100000 in
set_option maxHeartbeats 4000000 in
theorem stops_goes (V A D L H p0 v0 n x : Int) (w : World) (hr : Hid (rightB ⟨V, A, D, L, H⟩ = true)) (hs : Hid (safeB ⟨V, A, D, L, H⟩ ⟨p0, v0⟩ = true)) (hn : Hid (cyc (max v0 (-v0)) D = n)) (hx : Hid (slw (max v0 (-v0)) 0 D = x)) (hn4 : n ≤ 4000) :
    Calls Try.prog 10 #[.agg #[.int .i64 V, .int .i64 A, .int .i64 D, .int .i64 L, .int .i64 H], .agg #[.int .i64 p0, .int .i64 v0]] w fun e w' => e = .returned (.bool true) ∧ Below w.heap.size w w' := by
  have hy := rightB_yes hr.out
  simp only at hy
  have hz := safeB_yes hs.out
  simp only at hz
  have hp0 : L ≤ p0 ∧ p0 ≤ H := by omega
  have hv0 : -1048576 ≤ v0 ∧ v0 ≤ 1048576 := by omega
  have hxb : 0 ≤ x ∧ x ≤ 1099511627776 := by
    have := slw_bound (max v0 (-v0)) 0 D (by omega) (by omega) (by omega)
    rw [hx.out] at this
    exact this
  have hn0 : 0 ≤ n := by
    have := (cyc_bnd (max v0 (-v0)) D (by omega) (by omega)).1
    rw [hn.out] at this
    exact this
  clear hz
  obtain ⟨E, hE⟩ : ∃ E, p0 + wayS v0 D = E := ⟨_, rfl⟩
  have hE2 : p0 + (if v0 < 0 then -x else x) = E := by
    rw [← hE]
    unfold wayS
    have h := hx.out
    split
    · rw [show max v0 (-v0) = -v0 by omega] at h
      rw [h]
    · rw [show max v0 (-v0) = v0 by omega] at h
      rw [h]
  have hends : ends ⟨V, A, D, L, H⟩ ⟨p0, v0⟩ E n := ⟨hs.out, hE, hn.out⟩
  have HE := Lib.hid hends
  clear hends hE
  by_cases hneg : v0 < 0
  all_goals
    first
      | rw [if_pos hneg] at hE2
      | rw [if_neg hneg] at hE2
    have HE2 := Lib.hid hE2
    have hn' := hn.out
    have hx' := hx.out
    first
      | rw [show max v0 (-v0) = -v0 by omega] at hn' hx'
      | rw [show max v0 (-v0) = v0 by omega] at hn' hx'
    have HN := Lib.hid hn'
    have HX := Lib.hid hx'
    clear hE2 hn' hx'
    go_enter Try.func10, Try.ntmps10
    go_wp2_with fail
    refine (awake9 _).mono ?_
    rintro e w1 ⟨rfl, hb1⟩
    obtain ⟨hb1c, hb1f⟩ := bcell hb1
    have hb1z := hb1.size
    have hb1c0 := fun o => hb1c (w.heap.size) o (by first | (simp; done) | (simp; omega) | (simp at *; omega) | omega)
    have hb1f0 := fun o => hb1f (w.heap.size) o (by first | (simp; done) | (simp; omega) | (simp at *; omega) | omega)
    have hb1l0 := below_lt (b := w.heap.size) hb1 (by first | (simp; done) | (simp; omega) | (simp at *; omega) | omega)
    have hb1c1 := fun o => hb1c (w.heap.size + 1) o (by first | (simp; done) | (simp; omega) | (simp at *; omega) | omega)
    have hb1f1 := fun o => hb1f (w.heap.size + 1) o (by first | (simp; done) | (simp; omega) | (simp at *; omega) | omega)
    have hb1l1 := below_lt (b := w.heap.size + 1) hb1 (by first | (simp; done) | (simp; omega) | (simp at *; omega) | omega)
    go_wp2_with fail
    refine (gright_at _ _ _ _ _ _ _ hr.out).mono ?_
    rintro e w2 ⟨rfl, hb2⟩
    obtain ⟨hb2c, hb2f⟩ := bcell hb2
    have hb2z := hb2.size
    have hb2c0 := fun o => hb2c (w.heap.size) o (by first | (simp; done) | (simp; omega) | (simp at *; omega) | omega)
    have hb2f0 := fun o => hb2f (w.heap.size) o (by first | (simp; done) | (simp; omega) | (simp at *; omega) | omega)
    have hb2l0 := below_lt (b := w.heap.size) hb2 (by first | (simp; done) | (simp; omega) | (simp at *; omega) | omega)
    have hb2c1 := fun o => hb2c (w.heap.size + 1) o (by first | (simp; done) | (simp; omega) | (simp at *; omega) | omega)
    have hb2f1 := fun o => hb2f (w.heap.size + 1) o (by first | (simp; done) | (simp; omega) | (simp at *; omega) | omega)
    have hb2l1 := below_lt (b := w.heap.size + 1) hb2 (by first | (simp; done) | (simp; omega) | (simp at *; omega) | omega)
    go_wp2_with fail
    refine (gsafe_at _ _ _ _ _ _ _ _ hr.out (by omega) _ hs.out).mono ?_
    rintro e w3 ⟨rfl, hb3⟩
    obtain ⟨hb3c, hb3f⟩ := bcell hb3
    have hb3z := hb3.size
    have hb3c0 := fun o => hb3c (w.heap.size) o (by first | (simp; done) | (simp; omega) | (simp at *; omega) | omega)
    have hb3f0 := fun o => hb3f (w.heap.size) o (by first | (simp; done) | (simp; omega) | (simp at *; omega) | omega)
    have hb3l0 := below_lt (b := w.heap.size) hb3 (by first | (simp; done) | (simp; omega) | (simp at *; omega) | omega)
    have hb3c1 := fun o => hb3c (w.heap.size + 1) o (by first | (simp; done) | (simp; omega) | (simp at *; omega) | omega)
    have hb3f1 := fun o => hb3f (w.heap.size + 1) o (by first | (simp; done) | (simp; omega) | (simp at *; omega) | omega)
    have hb3l1 := below_lt (b := w.heap.size + 1) hb3 (by first | (simp; done) | (simp; omega) | (simp at *; omega) | omega)
    go_wp2_with fail
    refine (gcycles_at _ _ n _ (by omega) (by omega) HN.out).mono ?_
    rintro e w4 ⟨rfl, rfl⟩
    go_wp2_with fail
    refine (gway_at _ _ x _ (by omega) (by omega) HX.out).mono ?_
    rintro e w4 ⟨rfl, rfl⟩
    go_wp2_with fail
    have hB3 : Below w.heap.size w w3 := by (repeat' (first | (with_reducible exact Below.refl _ _) | (with_reducible assumption) | (with_reducible refine below_drewN ?_ _) | (with_reducible refine Below.drew ?_) | (with_reducible refine below_new ?_ (Nat.le_refl _) _) | (with_reducible refine Below.setCell ?_ ?_ _) | (with_reducible refine below_go ?_ (by assumption) (Nat.le_refl _)) | (simp; done) | (simp; omega) | omega))
    have z3 : w.heap.size + 1 < w3.heap.size := by omega
    first
      | rw [HE2.out]
      | rw [show p0 - x = E by have := HE2.out; omega]
    clear HE2
    go_loopw [9] (fun i w' => ∃ (p v : Int) (k : Nat), k ≤ n ∧ Hid (ends ⟨V, A, D, L, H⟩ ⟨p, v⟩ E (n - k)) ∧ i = .int .i64 k ∧ Below w.heap.size w w' ∧ w.heap.size + 1 < w'.heap.size ∧
      (w'.cell? ⟨w.heap.size, 0, none⟩ = some (.int .i64 V) ∧ w'.cell? ⟨w.heap.size, 1, none⟩ = some (.int .i64 A) ∧ w'.cell? ⟨w.heap.size, 2, none⟩ = some (.int .i64 D) ∧ w'.cell? ⟨w.heap.size, 3, none⟩ = some (.int .i64 L) ∧ w'.cell? ⟨w.heap.size, 4, none⟩ = some (.int .i64 H)) ∧
      (w'.cell? ⟨w.heap.size + 1, 0, none⟩ = some (.int .i64 p) ∧ w'.cell? ⟨w.heap.size + 1, 1, none⟩ = some (.int .i64 v)) ∧ (∀ o, w'.frozen? ⟨w.heap.size + 1, o, none⟩ = false)) (fun i _ => (n - intOf i).toNat)
    case atStart =>
      exact ⟨p0, v0, 0, by omega, by simpa using HE, rfl, hB3, z3, ⟨by go_simp, by go_simp, by go_simp, by go_simp, by go_simp⟩, ⟨by go_simp, by go_simp⟩, fun o => by go_simp⟩
    case round =>
      obtain ⟨p, v, k, hk, HS, rfl, hbr, hsz, ⟨l0, l1, l2, l3, l4⟩, ⟨g0, g1⟩, hfr⟩ := hrel
      clear hB3 z3 hb1 hb2 hb3 hb1c hb1f hb1z hb1c0 hb1f0 hb1l0 hb1c1 hb1f1 hb1l1 hb2c hb2f hb2z hb2c0 hb2f0 hb2l0 hb2c1 hb2f1 hb2l1 hb3c hb3f hb3z hb3c0 hb3f0 hb3l0 hb3c1 hb3f1 hb3l1
      have hok : okB ⟨V, A, D, L, H⟩ ⟨p, v⟩ = true := by simp [okB, hr.out, HS.out.1]
      have HO := Lib.hid hok
      have z0 : w.heap.size < wr.heap.size := by omega
      clear hok
      by_cases hlt : (k : Int) < n
      · have hv : v ≠ 0 := fun h => by
          have := (ends_rest _ _ _ _ hr.out HS.out h).1
          omega
        obtain ⟨p', v', hg⟩ : ∃ p' v', stepG ⟨V, A, D, L, H⟩ ⟨p, v⟩ 0 = ⟨p', v'⟩ := ⟨_, _, rfl⟩
        have hst := ends_step _ _ _ _ p' v' hr.out HS.out hv hg
        have HG := Lib.hid hg
        have HT := Lib.hid hst
        have q0 : (v == 0) = false := by simpa using hv
        clear hg hst hv
        go_wp2_with fail
        refine (gstep_at V A D L H p v 0 p' v' _ HO.out HG.out).mono ?_
        rintro e w5 ⟨rfl, hb5⟩
        obtain ⟨hb5c, hb5f⟩ := bcell hb5
        have hb5z := hb5.size
        have hb5c0 := fun o => hb5c (w.heap.size) o (by first | (simp; done) | (simp; omega) | (simp at *; omega) | omega)
        have hb5f0 := fun o => hb5f (w.heap.size) o (by first | (simp; done) | (simp; omega) | (simp at *; omega) | omega)
        have hb5l0 := below_lt (b := w.heap.size) hb5 (by first | (simp; done) | (simp; omega) | (simp at *; omega) | omega)
        have hb5c1 := fun o => hb5c (w.heap.size + 1) o (by first | (simp; done) | (simp; omega) | (simp at *; omega) | omega)
        have hb5f1 := fun o => hb5f (w.heap.size + 1) o (by first | (simp; done) | (simp; omega) | (simp at *; omega) | omega)
        have hb5l1 := below_lt (b := w.heap.size + 1) hb5 (by first | (simp; done) | (simp; omega) | (simp at *; omega) | omega)
        go_wp2
        go_roundw
        case rel =>
          exact ⟨p', v', k + 1, by omega, by rw [show n - ((k + 1 : Nat) : Int) = n - k - 1 by omega]; exact HT, by go_num, by (repeat' (first | (with_reducible exact Below.refl _ _) | (with_reducible assumption) | (with_reducible refine below_drewN ?_ _) | (with_reducible refine Below.drew ?_) | (with_reducible refine below_new ?_ (Nat.le_refl _) _) | (with_reducible refine Below.setCell ?_ ?_ _) | (with_reducible refine below_go ?_ (by assumption) (Nat.le_refl _)) | (simp; done) | (simp; omega) | omega)), by simp; omega, ⟨by go_simp, by go_simp, by go_simp, by go_simp, by go_simp⟩, ⟨by go_simp, by go_simp⟩, fun o => by go_simp⟩
        case measure => simp [intOf]; omega
      · have hv : v = 0 := by
          apply Classical.byContradiction
          intro h
          have := ends_goes _ _ _ _ hr.out HS.out h
          omega
        have hre := ends_rest _ _ _ _ hr.out HS.out hv
        obtain ⟨_, hpe, hst⟩ := hre
        simp only at hpe
        subst hv
        have hl : ((p == E) && ((0 : Int) == 0)) = true := by simp [hpe]
        have HL := Lib.hid hl
        have HST := Lib.hid hst
        clear hl hst hpe
        go_wp2_with fail
        refine wp_region_ext (by kernel_rfl) (by kernel_rfl) ?_
        repeat (go_big_quiet_step (first | (go_at_call 31; exact ext_call (glanded_at _ _ _ _ _ HL.out)) | (go_at_call 29; exact ext_call (gstep_at V A D L H p 0 0 p 0 _ HO.out HST.out))))
        refine wpQuiet_nil ?_
        intro w6 hb6
        replace hb6 := ext_below hb6
        go_wp2
        go_ret
        exact ⟨rfl, by (repeat' (first | (with_reducible exact Below.refl _ _) | (with_reducible assumption) | (with_reducible refine below_drewN ?_ _) | (with_reducible refine Below.drew ?_) | (with_reducible refine below_new ?_ (Nat.le_refl _) _) | (with_reducible refine Below.setCell ?_ ?_ _) | (with_reducible refine below_go ?_ (by assumption) (Nat.le_refl _)) | (simp; done) | (simp; omega) | omega))⟩

end Go.Proofs.Ytmlndgmkjdkcfaa
