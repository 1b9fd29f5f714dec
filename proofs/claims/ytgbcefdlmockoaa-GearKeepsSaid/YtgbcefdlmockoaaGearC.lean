/- Layer 14: GearKeeps, of right limits and a safe generator. -/
import Derived.Test.YtgbcefdlmockoaaGearB
import Derived.Test.YtgbcefdlmockoaaReadS
import Derived.Test.YtgbcefdlmockoaaFresh
namespace Go.Proofs.Ytgbcefdlmockoaa
open Go.ChangeShapes Go.WideShapes Go.ChangeAt Go.RowKit
set_option linter.unusedVariables false
set_option linter.unusedSimpArgs false
attribute [local go_sem] ite_max ite_min vite_max vite_min ite_max0 vite_max0 ext_cell ext_frozen extS_cell extS_frozen

set_option maxRecDepth 100000 in
set_option maxHeartbeats 8000000 in
theorem keeps_some (V A D L H p0 v0 nm dn : Int) (b off cap : Nat) (zs : List Int) (w : World) (hr : Hid (rightB ⟨V, A, D, L, H⟩ = true)) (hs : Hid (safeB ⟨V, A, D, L, H⟩ ⟨p0, v0⟩ = true)) (hnm : -9223372036854775808 ≤ nm ∧ nm ≤ 9223372036854775807) (hdn : -9223372036854775808 ≤ dn ∧ dn ≤ 9223372036854775807)
    (hn : zs.length ≤ cap) (hcap : cap ≤ 9223372036854775807) (hb0 : b < w.heap.size) (hpos : 0 < zs.length) (hzb : Hid (∀ i : Nat, -9223372036854775808 ≤ zs[i]?.getD 0 ∧ zs[i]?.getD 0 ≤ 9223372036854775807)) (hc : Hid (∀ i, i < zs.length → w.cell? ⟨b, off + i, none⟩ = some (.int .i64 (zs[i]?.getD 0)))) :
    Calls Try.prog 11 #[.agg #[.int .i64 V, .int .i64 A, .int .i64 D, .int .i64 L, .int .i64 H], .agg #[.int .i64 p0, .int .i64 v0], .slice (some ⟨b, off, none⟩) zs.length cap, .int .i64 nm, .int .i64 dn] w fun e w' => e = .returned (.bool true) ∧ Below w.heap.size w w' := by
  obtain ⟨n, hlen⟩ : ∃ n, zs.length = n := ⟨_, rfl⟩
  have hy := rightB_yes hr.out
  simp only at hy
  have hz := safeB_yes hs.out
  simp only at hz
  have hp0 : L ≤ p0 ∧ p0 ≤ H := by omega
  have hv0 : -1048576 ≤ v0 ∧ v0 ≤ 1048576 := by omega
  obtain ⟨m0, hm0⟩ : ∃ m0, zs[0]?.getD 0 = m0 := ⟨_, rfl⟩
  have hm0b := hzb.out 0
  have hcell0 := hc.out 0 hpos
  rw [hm0] at hm0b hcell0
  rw [Nat.add_zero] at hcell0
  rw [hlen] at hn hpos ⊢
  have hposI : (0 : Int) < (n : Int) := by omega
  have hn0 : ((n : Int) == 0) = false := by simp; omega
  clear hz hm0
  go_enter Try.func11, Try.ntmps11
  go_wp2_with fail
  refine (awake14 _).mono ?_
  rintro e w1 ⟨rfl, hb1⟩
  obtain ⟨hb1c, hb1f⟩ := bcell hb1
  have hb1z := hb1.size
  have hb1c0 := fun o => hb1c (w.heap.size) o (by first | (simp; done) | (simp; omega) | (simp at *; omega) | omega)
  have hb1f0 := fun o => hb1f (w.heap.size) o (by first | (simp; done) | (simp; omega) | (simp at *; omega) | omega)
  have hb1l0 := below_lt (b := w.heap.size) hb1 (by first | (simp; done) | (simp; omega) | (simp at *; omega) | omega)
  have hb1c1 := fun o => hb1c (w.heap.size + 1) o (by first | (simp; done) | (simp; omega) | (simp at *; omega) | omega)
  have hb1f1 := fun o => hb1f (w.heap.size + 1) o (by first | (simp; done) | (simp; omega) | (simp at *; omega) | omega)
  have hb1l1 := below_lt (b := w.heap.size + 1) hb1 (by first | (simp; done) | (simp; omega) | (simp at *; omega) | omega)
  have hb1c2 := fun o => hb1c (b) o (by first | (simp; done) | (simp; omega) | (simp at *; omega) | omega)
  have hb1f2 := fun o => hb1f (b) o (by first | (simp; done) | (simp; omega) | (simp at *; omega) | omega)
  have hb1l2 := below_lt (b := b) hb1 (by first | (simp; done) | (simp; omega) | (simp at *; omega) | omega)
  go_wp2_with fail
  refine (gright_at _ _ _ _ _ _ _ hr.out).mono ?_
  rintro e w2 ⟨rfl, hb2⟩
  obtain ⟨hb2c, hb2f⟩ := bcell hb2
  have hb2z := hb2.size
  have hb2c0 := fun o => hb2c (w.heap.size) o (by first | (simp; done) | (simp; omega) | (simp at *; omega) | omega)
  have hb2f0 := fun o => hb2f (w.heap.size) o (by first | (simp; done) | (simp; omega) | (simp at *; omega) | omega)
  have hb2l0 := below_lt (b := w.heap.size) hb2 (by first | (simp; done) | (simp; omega) | (simp at *; omega) | omega)
  have hb2c1 := fun o => hb2c (w.heap.size + 1) o (by first | (simp; done) | (simp; omega) | (simp at *; omega) | omega)
  have hb2f1 := fun o => hb2f (w.heap.size + 1) o (by first | (simp; done) | (simp; omega) | (simp at *; omega) | omega)
  have hb2l1 := below_lt (b := w.heap.size + 1) hb2 (by first | (simp; done) | (simp; omega) | (simp at *; omega) | omega)
  have hb2c2 := fun o => hb2c (b) o (by first | (simp; done) | (simp; omega) | (simp at *; omega) | omega)
  have hb2f2 := fun o => hb2f (b) o (by first | (simp; done) | (simp; omega) | (simp at *; omega) | omega)
  have hb2l2 := below_lt (b := b) hb2 (by first | (simp; done) | (simp; omega) | (simp at *; omega) | omega)
  go_wp2_with fail
  refine (gsafe_at _ _ _ _ _ _ _ _ hr.out (by omega) _ hs.out).mono ?_
  rintro e w3 ⟨rfl, hb3⟩
  obtain ⟨hb3c, hb3f⟩ := bcell hb3
  have hb3z := hb3.size
  have hb3c0 := fun o => hb3c (w.heap.size) o (by first | (simp; done) | (simp; omega) | (simp at *; omega) | omega)
  have hb3f0 := fun o => hb3f (w.heap.size) o (by first | (simp; done) | (simp; omega) | (simp at *; omega) | omega)
  have hb3l0 := below_lt (b := w.heap.size) hb3 (by first | (simp; done) | (simp; omega) | (simp at *; omega) | omega)
  have hb3c1 := fun o => hb3c (w.heap.size + 1) o (by first | (simp; done) | (simp; omega) | (simp at *; omega) | omega)
  have hb3f1 := fun o => hb3f (w.heap.size + 1) o (by first | (simp; done) | (simp; omega) | (simp at *; omega) | omega)
  have hb3l1 := below_lt (b := w.heap.size + 1) hb3 (by first | (simp; done) | (simp; omega) | (simp at *; omega) | omega)
  have hb3c2 := fun o => hb3c (b) o (by first | (simp; done) | (simp; omega) | (simp at *; omega) | omega)
  have hb3f2 := fun o => hb3f (b) o (by first | (simp; done) | (simp; omega) | (simp at *; omega) | omega)
  have hb3l2 := below_lt (b := b) hb3 (by first | (simp; done) | (simp; omega) | (simp at *; omega) | omega)
  go_wp2_with fail
  refine wp_region_ext (by kernel_rfl) (by kernel_rfl) ?_
  repeat (go_big_quiet_step (fail))
  refine wpQuiet_nil ?_
  intro w4 hb4
  replace hb4 := ext_below hb4
  obtain ⟨hb4c, hb4f⟩ := bcell hb4
  have hb4z := hb4.size
  have hb4c0 := fun o => hb4c (w.heap.size) o (by first | (simp; done) | (simp; omega) | (simp at *; omega) | omega)
  have hb4f0 := fun o => hb4f (w.heap.size) o (by first | (simp; done) | (simp; omega) | (simp at *; omega) | omega)
  have hb4l0 := below_lt (b := w.heap.size) hb4 (by first | (simp; done) | (simp; omega) | (simp at *; omega) | omega)
  have hb4c1 := fun o => hb4c (w.heap.size + 1) o (by first | (simp; done) | (simp; omega) | (simp at *; omega) | omega)
  have hb4f1 := fun o => hb4f (w.heap.size + 1) o (by first | (simp; done) | (simp; omega) | (simp at *; omega) | omega)
  have hb4l1 := below_lt (b := w.heap.size + 1) hb4 (by first | (simp; done) | (simp; omega) | (simp at *; omega) | omega)
  go_wp2_with fail
  have hB3 : Below w.heap.size w w4 := by (repeat' (first | (with_reducible exact Below.refl _ _) | (with_reducible assumption) | (with_reducible refine below_drewN ?_ _) | (with_reducible refine Below.drew ?_) | (with_reducible refine below_new ?_ (Nat.le_refl _) _) | (with_reducible refine Below.setCell ?_ ?_ _) | (with_reducible refine below_go ?_ (by assumption) (Nat.le_refl _)) | (simp; done) | (simp; omega) | omega))
  have z3 : w.heap.size + 1 < w4.heap.size := by omega
  go_loopw [13] (fun i w' => ∃ (p v : Int) (k : Nat), k ≤ n ∧ k ≤ 300 ∧ Hid (safeB ⟨V, A, D, L, H⟩ ⟨p, v⟩ = true) ∧ i = .int .i64 k ∧ Below w.heap.size w w' ∧ w.heap.size + 1 < w'.heap.size ∧
    (w'.cell? ⟨w.heap.size, 0, none⟩ = some (.int .i64 V) ∧ w'.cell? ⟨w.heap.size, 1, none⟩ = some (.int .i64 A) ∧ w'.cell? ⟨w.heap.size, 2, none⟩ = some (.int .i64 D) ∧ w'.cell? ⟨w.heap.size, 3, none⟩ = some (.int .i64 L) ∧ w'.cell? ⟨w.heap.size, 4, none⟩ = some (.int .i64 H)) ∧
    (w'.cell? ⟨w.heap.size + 1, 0, none⟩ = some (.int .i64 p) ∧ w'.cell? ⟨w.heap.size + 1, 1, none⟩ = some (.int .i64 v)) ∧ (∀ o, w'.frozen? ⟨w.heap.size + 1, o, none⟩ = false)) (fun i _ => n - (intOf i).toNat)
  case atStart =>
    exact ⟨p0, v0, 0, by omega, by omega, hs, rfl, hB3, z3, ⟨by go_simp, by go_simp, by go_simp, by go_simp, by go_simp⟩, ⟨by go_simp, by go_simp⟩, fun o => by go_simp⟩
  case round =>
    obtain ⟨p, v, k, hk, hk3, HS, rfl, hbr, hsz, ⟨l0, l1, l2, l3, l4⟩, ⟨g0, g1⟩, hfr⟩ := hrel
    clear hB3 z3 hb1 hb2 hb3 hb4 hb1c hb1f hb1z hb1c0 hb1f0 hb1l0 hb1c1 hb1f1 hb1l1 hb1c2 hb1f2 hb1l2 hb2c hb2f hb2z hb2c0 hb2f0 hb2l0 hb2c1 hb2f1 hb2l1 hb2c2 hb2f2 hb2l2 hb3c hb3f hb3z hb3c0 hb3f0 hb3l0 hb3c1 hb3f1 hb3l1 hb3c2 hb3f2 hb3l2 hb4c hb4f hb4z hb4c0 hb4f0 hb4l0 hb4c1 hb4f1 hb4l1
    by_cases hlt : k < n
    · by_cases h300 : k < 300
      · obtain ⟨m, hm⟩ : ∃ m, zs[k]?.getD 0 = m := ⟨_, rfl⟩
        have hmb := hzb.out k
        have hcell : wr.cell? ⟨b, off + k, none⟩ = some (.int .i64 m) := by rw [hbr.cell hb0, hc.out k (by omega), hm]
        rw [hm] at hmb
        obtain ⟨P, hP⟩ : ∃ P, plV p0 m0 m nm dn = P := ⟨_, rfl⟩
        obtain ⟨O, hO⟩ : ∃ O, plO p0 m0 m nm dn = O := ⟨_, rfl⟩
        obtain ⟨x, hx⟩ : ∃ x, wantV ⟨p, v⟩ P O = x := ⟨_, rfl⟩
        obtain ⟨y, hyy⟩ : ∃ y, wantO ⟨V, A, D, L, H⟩ ⟨p, v⟩ P O = y := ⟨_, rfl⟩
        obtain ⟨p', v', hg⟩ : ∃ p' v', stepG ⟨V, A, D, L, H⟩ ⟨p, v⟩ x = ⟨p', v'⟩ := ⟨_, _, rfl⟩
        have hPb := gplace_bd p0 m0 m nm dn
        rw [hP] at hPb
        have hxb := want_bd ⟨p, v⟩ P O
        rw [hx] at hxb
        have hwant := want_step ⟨V, A, D, L, H⟩ ⟨p, v⟩ P O ⟨p', v'⟩ hr.out HS.out hPb (by rw [hx]; exact hg)
        rw [hyy] at hwant
        have hmid := step_between ⟨V, A, D, L, H⟩ ⟨p, v⟩ x hr.out HS.out
        have hk1 : p' = p + v' := by
          have e1 : (stepG ⟨V, A, D, L, H⟩ ⟨p, v⟩ x).p = p + (stepG ⟨V, A, D, L, H⟩ ⟨p, v⟩ x).v := rfl
          rw [hg] at e1
          exact e1
        rw [hg] at hmid
        have hkeep := step_keeps ⟨V, A, D, L, H⟩ ⟨p, v⟩ ⟨p', v'⟩ hr.out HS.out hk1 hmid.1 hmid.2
        obtain ⟨hsafe, hd1, hd2, _⟩ := hkeep
        have hz1 := safeB_yes HS.out
        have hz2 := safeB_yes hsafe
        simp only at hd1 hd2 hz1 hz2
        have hvb : -1048576 ≤ v ∧ v ≤ 1048576 := by omega
        have hvb' : -1048576 ≤ v' ∧ v' ≤ 1048576 := by omega
        have hpb : -1099511627776 ≤ p ∧ p ≤ 1099511627776 := by omega
        have hpb' : -1099511627776 ≤ p' ∧ p' ≤ 1099511627776 := by omega
        have hok : okB ⟨V, A, D, L, H⟩ ⟨p, v⟩ = true := by simp [okB, hr.out, HS.out]
        have htest : (y = true ∧ O = true ∧ (p' == P) = true ∧ (p' != P) = false) ∨ (y = false ∧ O = false) ∨ (y = false ∧ O = true ∧ (p' == P) = false) := by
          cases y
          · cases O
            · exact .inr (.inl ⟨rfl, rfl⟩)
            · exact .inr (.inr ⟨rfl, rfl, by simpa using hwant.2 rfl rfl⟩)
          · have := hwant.1 rfl
            exact .inl ⟨rfl, this.1, by simpa using this.2, by simpa using this.2⟩
        have HG := Lib.hid hg
        have HO := Lib.hid hok
        have HP := Lib.hid hP
        have HQ := Lib.hid hO
        have HX := Lib.hid hx
        have HY := Lib.hid hyy
        have HSF := Lib.hid hsafe
        have z0 : w.heap.size < wr.heap.size := by omega
        have zb : b < wr.heap.size := by omega
        have hki : (0 : Int) ≤ (k : Int) := by omega
        have hkn : (k : Int) < (n : Int) := by omega
        clear hg hok hP hO hx hyy hsafe hwant hmid hk1 hm hz1 hz2 hcell0
        rcases htest with ⟨rfl, rfl, t1, t2⟩ | ⟨rfl, rfl⟩ | ⟨rfl, rfl, t1⟩
        all_goals
          go_wp2_with fail
          refine wp_region_ext (by kernel_rfl) (by kernel_rfl) ?_
          repeat (go_big_quiet_step (first | (go_at_call 32; exact ext_call (gwant_at _ _ _ _ _ _ _ _ _ _ _ _ _ _ _ HO.out (by omega) (by omega) (by omega) (by omega) (by omega) HP.out HQ.out x _ HX.out HY.out))))
          refine wpQuiet_nil ?_
          intro w5 hb5
          replace hb5 := ext_below hb5
          obtain ⟨hb5c, hb5f⟩ := bcell hb5
          have hb5z := hb5.size
          have hb5c0 := fun o => hb5c (w.heap.size) o (by first | (simp; done) | (simp; omega) | (simp at *; omega) | omega)
          have hb5f0 := fun o => hb5f (w.heap.size) o (by first | (simp; done) | (simp; omega) | (simp at *; omega) | omega)
          have hb5l0 := below_lt (b := w.heap.size) hb5 (by first | (simp; done) | (simp; omega) | (simp at *; omega) | omega)
          have hb5c1 := fun o => hb5c (w.heap.size + 1) o (by first | (simp; done) | (simp; omega) | (simp at *; omega) | omega)
          have hb5f1 := fun o => hb5f (w.heap.size + 1) o (by first | (simp; done) | (simp; omega) | (simp at *; omega) | omega)
          have hb5l1 := below_lt (b := w.heap.size + 1) hb5 (by first | (simp; done) | (simp; omega) | (simp at *; omega) | omega)
          have hb5c2 := fun o => hb5c (b) o (by first | (simp; done) | (simp; omega) | (simp at *; omega) | omega)
          have hb5f2 := fun o => hb5f (b) o (by first | (simp; done) | (simp; omega) | (simp at *; omega) | omega)
          have hb5l2 := below_lt (b := b) hb5 (by first | (simp; done) | (simp; omega) | (simp at *; omega) | omega)
          go_wp2_with fail
          refine (gstep_to V A D L H p v x p' v' _ HO.out HG.out).mono ?_
          rintro e w6 ⟨rfl, hb6⟩
          obtain ⟨hb6c, hb6f⟩ := bcell hb6
          have hb6z := hb6.size
          have hb6c0 := fun o => hb6c (w.heap.size) o (by first | (simp; done) | (simp; omega) | (simp at *; omega) | omega)
          have hb6f0 := fun o => hb6f (w.heap.size) o (by first | (simp; done) | (simp; omega) | (simp at *; omega) | omega)
          have hb6l0 := below_lt (b := w.heap.size) hb6 (by first | (simp; done) | (simp; omega) | (simp at *; omega) | omega)
          have hb6c1 := fun o => hb6c (w.heap.size + 1) o (by first | (simp; done) | (simp; omega) | (simp at *; omega) | omega)
          have hb6f1 := fun o => hb6f (w.heap.size + 1) o (by first | (simp; done) | (simp; omega) | (simp at *; omega) | omega)
          have hb6l1 := below_lt (b := w.heap.size + 1) hb6 (by first | (simp; done) | (simp; omega) | (simp at *; omega) | omega)
          have hb6c2 := fun o => hb6c (b) o (by first | (simp; done) | (simp; omega) | (simp at *; omega) | omega)
          have hb6f2 := fun o => hb6f (b) o (by first | (simp; done) | (simp; omega) | (simp at *; omega) | omega)
          have hb6l2 := below_lt (b := b) hb6 (by first | (simp; done) | (simp; omega) | (simp at *; omega) | omega)
          go_wp2_with fail
          refine (gplace_at _ _ _ _ _ P _ _ (by omega) (by omega) (by omega) (by omega) (by omega) HP.out HQ.out).mono ?_
          rintro e w7 ⟨rfl, hb7⟩
          obtain ⟨hb7c, hb7f⟩ := bcell hb7
          have hb7z := hb7.size
          have hb7c0 := fun o => hb7c (w.heap.size) o (by first | (simp; done) | (simp; omega) | (simp at *; omega) | omega)
          have hb7f0 := fun o => hb7f (w.heap.size) o (by first | (simp; done) | (simp; omega) | (simp at *; omega) | omega)
          have hb7l0 := below_lt (b := w.heap.size) hb7 (by first | (simp; done) | (simp; omega) | (simp at *; omega) | omega)
          have hb7c1 := fun o => hb7c (w.heap.size + 1) o (by first | (simp; done) | (simp; omega) | (simp at *; omega) | omega)
          have hb7f1 := fun o => hb7f (w.heap.size + 1) o (by first | (simp; done) | (simp; omega) | (simp at *; omega) | omega)
          have hb7l1 := below_lt (b := w.heap.size + 1) hb7 (by first | (simp; done) | (simp; omega) | (simp at *; omega) | omega)
          have hb7c2 := fun o => hb7c (w6.heap.size) o (by first | (simp; done) | (simp; omega) | (simp at *; omega) | omega)
          have hb7f2 := fun o => hb7f (w6.heap.size) o (by first | (simp; done) | (simp; omega) | (simp at *; omega) | omega)
          have hb7l2 := below_lt (b := w6.heap.size) hb7 (by first | (simp; done) | (simp; omega) | (simp at *; omega) | omega)
          go_wp2_with fail
          refine (gsafe_at _ _ _ _ _ _ _ _ hr.out (by omega) _ HSF.out).mono ?_
          rintro e w8 ⟨rfl, hb8⟩
          obtain ⟨hb8c, hb8f⟩ := bcell hb8
          have hb8z := hb8.size
          have hb8c0 := fun o => hb8c (w.heap.size) o (by first | (simp; done) | (simp; omega) | (simp at *; omega) | omega)
          have hb8f0 := fun o => hb8f (w.heap.size) o (by first | (simp; done) | (simp; omega) | (simp at *; omega) | omega)
          have hb8l0 := below_lt (b := w.heap.size) hb8 (by first | (simp; done) | (simp; omega) | (simp at *; omega) | omega)
          have hb8c1 := fun o => hb8c (w.heap.size + 1) o (by first | (simp; done) | (simp; omega) | (simp at *; omega) | omega)
          have hb8f1 := fun o => hb8f (w.heap.size + 1) o (by first | (simp; done) | (simp; omega) | (simp at *; omega) | omega)
          have hb8l1 := below_lt (b := w.heap.size + 1) hb8 (by first | (simp; done) | (simp; omega) | (simp at *; omega) | omega)
          have hb8c2 := fun o => hb8c (w6.heap.size) o (by first | (simp; done) | (simp; omega) | (simp at *; omega) | omega)
          have hb8f2 := fun o => hb8f (w6.heap.size) o (by first | (simp; done) | (simp; omega) | (simp at *; omega) | omega)
          have hb8l2 := below_lt (b := w6.heap.size) hb8 (by first | (simp; done) | (simp; omega) | (simp at *; omega) | omega)
          go_wp2
          go_roundw
          case rel => exact ⟨p', v', k + 1, by omega, by omega, HSF, by go_num, by (repeat' (first | (with_reducible exact Below.refl _ _) | (with_reducible assumption) | (with_reducible refine below_drewN ?_ _) | (with_reducible refine Below.drew ?_) | (with_reducible refine below_new ?_ (Nat.le_refl _) _) | (with_reducible refine Below.setCell ?_ ?_ _) | (with_reducible refine below_go ?_ (by assumption) (Nat.le_refl _)) | (simp; done) | (simp; omega) | omega)), by simp; omega, ⟨by go_simp, by go_simp, by go_simp, by go_simp, by go_simp⟩, ⟨by go_simp, by go_simp⟩, fun o => by go_simp⟩
          case measure => simp [intOf]; omega
      · go_wp2
        go_ret
        exact ⟨rfl, by (repeat' (first | (with_reducible exact Below.refl _ _) | (with_reducible assumption) | (with_reducible refine below_drewN ?_ _) | (with_reducible refine Below.drew ?_) | (with_reducible refine below_new ?_ (Nat.le_refl _) _) | (with_reducible refine Below.setCell ?_ ?_ _) | (with_reducible refine below_go ?_ (by assumption) (Nat.le_refl _)) | (simp; done) | (simp; omega) | omega))⟩
    · go_wp2
      go_ret
      exact ⟨rfl, by (repeat' (first | (with_reducible exact Below.refl _ _) | (with_reducible assumption) | (with_reducible refine below_drewN ?_ _) | (with_reducible refine Below.drew ?_) | (with_reducible refine below_new ?_ (Nat.le_refl _) _) | (with_reducible refine Below.setCell ?_ ?_ _) | (with_reducible refine below_go ?_ (by assumption) (Nat.le_refl _)) | (simp; done) | (simp; omega) | omega))⟩

end Go.Proofs.Ytgbcefdlmockoaa
