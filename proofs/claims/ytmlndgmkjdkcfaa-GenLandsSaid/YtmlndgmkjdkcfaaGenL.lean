/- Layer 9: GenLands, of right limits and a safe generator that is near. -/
import Derived.Test.YtmlndgmkjdkcfaaGenJ
import Derived.Test.YtmlndgmkjdkcfaaPGenH
namespace Go.Proofs.Ytmlndgmkjdkcfaa
open Go.ChangeShapes Go.WideShapes Go.ChangeAt Go.RowKit
set_option linter.unusedVariables false
set_option linter.unusedSimpArgs false
attribute [local go_sem] ite_max ite_min vite_max vite_min ite_max0 vite_max0 ext_cell ext_frozen extS_cell extS_frozen

theorem lands_mono (l : LimS) (g : GenS) (t N M : Int) (h : landsN l g t N) (hle : N ≤ M) : landsN l g t M := by
  obtain ⟨hs, h⟩ := h
  have up : ∀ l g t, upN l g t N → upN l g t M := fun l g t h => by
    unfold upN at *
    omega
  rcases h with ⟨hl, h⟩ | h | h
  · exact ⟨hs, .inl ⟨hl, by omega⟩⟩
  · exact ⟨hs, .inr (.inl (up _ _ _ h))⟩
  · exact ⟨hs, .inr (.inr (up _ _ _ h))⟩

set_option maxRecDepth 100000 in
set_option maxHeartbeats 4000000 in
theorem lands_goes (V A D L H p0 v0 t s n x : Int) (w : World) (hr : Hid (rightB ⟨V, A, D, L, H⟩ = true)) (hs : Hid (safeB ⟨V, A, D, L, H⟩ ⟨p0, v0⟩ = true)) (h1 : 1 ≤ s) (ht : L ≤ t ∧ t ≤ H)
    (hn : Hid (cyc (max v0 (-v0)) D = n)) (hx : Hid (slw (max v0 (-v0)) 0 D = x)) (hf : max (t - p0) (p0 - t) ≤ 1000) (hx5 : x ≤ 500) (hn3 : n ≤ 300) :
    Calls Try.prog 11 #[.agg #[.int .i64 V, .int .i64 A, .int .i64 D, .int .i64 L, .int .i64 H], .agg #[.int .i64 p0, .int .i64 v0], .int .i64 t, .int .i64 s] w fun e w' => e = .returned (.bool true) ∧ Below w.heap.size w w' := by
  have hy := rightB_yes hr.out
  simp only at hy
  have hz := safeB_yes hs.out
  simp only at hz
  have hp0 : L ≤ p0 ∧ p0 ≤ H := by omega
  have hv0 : -1048576 ≤ v0 ∧ v0 ≤ 1048576 := by omega
  have hx0 : 0 ≤ x := by
    have := slw_nonneg (max v0 (-v0)) 0 D (by omega) (by omega)
    rw [hx.out] at this
    exact this
  have hn0 : 0 ≤ n := by
    have := (cyc_bnd (max v0 (-v0)) D (by omega) (by omega)).1
    rw [hn.out] at this
    exact this
  have hst0 := lands_start ⟨V, A, D, L, H⟩ ⟨p0, v0⟩ t hr.out hs.out
  simp only at hst0
  rw [hn.out, hx.out] at hst0
  have HST0 := Lib.hid hst0
  clear hz hst0
  go_enter Try.func11, Try.ntmps11
  go_wp2_with fail
  refine (awake9 _).mono ?_
  rintro e w1 ⟨rfl, hb1⟩
  obtain ⟨hb1c, hb1f⟩ := bcell hb1
  have hb1z := hb1.size
  have hb1c0 := fun o => hb1c (w.heap.size) o (by first | (simp; done) | (simp; omega) | (simp at *; omega) | omega)
  have hb1f0 := fun o => hb1f (w.heap.size) o (by first | (simp; done) | (simp; omega) | (simp at *; omega) | omega)
  have hb1l0 := below_lt (b := w.heap.size) hb1 (by first | (simp; done) | (simp; omega) | (simp at *; omega) | omega)
  have hb1c1 := fun o => hb1c (w.heap.size + 1) o (by first | (simp; done) | (simp; omega) | (simp at *; omega) | omega)
  have hb1f1 := fun o => hb1f (w.heap.size + 1) o (by first | (simp; done) | (simp; omega) | (simp at *; omega) | omega)
  have hb1l1 := below_lt (b := w.heap.size + 1) hb1 (by first | (simp; done) | (simp; omega) | (simp at *; omega) | omega)
  go_wp2_with fail
  refine (gright_at _ _ _ _ _ _ _ hr.out).mono ?_
  rintro e w2 ⟨rfl, hb2⟩
  obtain ⟨hb2c, hb2f⟩ := bcell hb2
  have hb2z := hb2.size
  have hb2c0 := fun o => hb2c (w.heap.size) o (by first | (simp; done) | (simp; omega) | (simp at *; omega) | omega)
  have hb2f0 := fun o => hb2f (w.heap.size) o (by first | (simp; done) | (simp; omega) | (simp at *; omega) | omega)
  have hb2l0 := below_lt (b := w.heap.size) hb2 (by first | (simp; done) | (simp; omega) | (simp at *; omega) | omega)
  have hb2c1 := fun o => hb2c (w.heap.size + 1) o (by first | (simp; done) | (simp; omega) | (simp at *; omega) | omega)
  have hb2f1 := fun o => hb2f (w.heap.size + 1) o (by first | (simp; done) | (simp; omega) | (simp at *; omega) | omega)
  have hb2l1 := below_lt (b := w.heap.size + 1) hb2 (by first | (simp; done) | (simp; omega) | (simp at *; omega) | omega)
  go_wp2_with fail
  refine (gsafe_at _ _ _ _ _ _ _ _ hr.out (by omega) _ hs.out).mono ?_
  rintro e w3 ⟨rfl, hb3⟩
  obtain ⟨hb3c, hb3f⟩ := bcell hb3
  have hb3z := hb3.size
  have hb3c0 := fun o => hb3c (w.heap.size) o (by first | (simp; done) | (simp; omega) | (simp at *; omega) | omega)
  have hb3f0 := fun o => hb3f (w.heap.size) o (by first | (simp; done) | (simp; omega) | (simp at *; omega) | omega)
  have hb3l0 := below_lt (b := w.heap.size) hb3 (by first | (simp; done) | (simp; omega) | (simp at *; omega) | omega)
  have hb3c1 := fun o => hb3c (w.heap.size + 1) o (by first | (simp; done) | (simp; omega) | (simp at *; omega) | omega)
  have hb3f1 := fun o => hb3f (w.heap.size + 1) o (by first | (simp; done) | (simp; omega) | (simp at *; omega) | omega)
  have hb3l1 := below_lt (b := w.heap.size + 1) hb3 (by first | (simp; done) | (simp; omega) | (simp at *; omega) | omega)
  go_wp2_with fail
  refine (gway_at _ _ x _ (by omega) (by omega) hx.out).mono ?_
  rintro e w4 ⟨rfl, rfl⟩
  go_wp2_with fail
  refine (gcycles_at _ _ n _ (by omega) (by omega) hn.out).mono ?_
  rintro e w4 ⟨rfl, rfl⟩
  go_wp2_with fail
  refine (gcycles_at _ _ n _ (by omega) (by omega) hn.out).mono ?_
  rintro e w4 ⟨rfl, rfl⟩
  go_wp2_with fail
  have hB3 : Below w.heap.size w w3 := by (repeat' (first | (with_reducible exact Below.refl _ _) | (with_reducible assumption) | (with_reducible refine below_drewN ?_ _) | (with_reducible refine Below.drew ?_) | (with_reducible refine below_new ?_ (Nat.le_refl _) _) | (with_reducible refine Below.setCell ?_ ?_ _) | (with_reducible refine below_go ?_ (by assumption) (Nat.le_refl _)) | (simp; done) | (simp; omega) | omega))
  have z3 : w.heap.size + 1 < w3.heap.size := by omega
  obtain ⟨M, hM⟩ : ∃ M, n + 2 + 2 * max (t - p0) (p0 - t) + x = M := ⟨_, rfl⟩
  rw [hM]
  have hM1 : n + x + max (t - p0) (p0 - t) + 1 ≤ M := by omega
  have hM2 : M ≤ 3000 := by omega
  clear hM
  go_loopw [13] (fun i w' => ∃ (p v : Int) (k : Nat), k ≤ M ∧ Hid (landsN ⟨V, A, D, L, H⟩ ⟨p, v⟩ t (M - k)) ∧ i = .int .i64 k ∧ Below w.heap.size w w' ∧ w.heap.size + 1 < w'.heap.size ∧
    (w'.cell? ⟨w.heap.size, 0, none⟩ = some (.int .i64 V) ∧ w'.cell? ⟨w.heap.size, 1, none⟩ = some (.int .i64 A) ∧ w'.cell? ⟨w.heap.size, 2, none⟩ = some (.int .i64 D) ∧ w'.cell? ⟨w.heap.size, 3, none⟩ = some (.int .i64 L) ∧ w'.cell? ⟨w.heap.size, 4, none⟩ = some (.int .i64 H)) ∧
    (w'.cell? ⟨w.heap.size + 1, 0, none⟩ = some (.int .i64 p) ∧ w'.cell? ⟨w.heap.size + 1, 1, none⟩ = some (.int .i64 v)) ∧ (∀ o, w'.frozen? ⟨w.heap.size + 1, o, none⟩ = false)) (fun i _ => (M - intOf i).toNat)
  case atStart =>
    exact ⟨p0, v0, 0, by omega, lands_mono _ _ _ _ _ HST0.out (by simpa using hM1), rfl, hB3, z3, ⟨by go_simp, by go_simp, by go_simp, by go_simp, by go_simp⟩, ⟨by go_simp, by go_simp⟩, fun o => by go_simp⟩
  case round =>
    obtain ⟨p, v, k, hk, HS, rfl, hbr, hsz, ⟨l0, l1, l2, l3, l4⟩, ⟨g0, g1⟩, hfr⟩ := hrel
    clear HST0 hM1 hB3 z3 hb1 hb2 hb3 hb1c hb1f hb1z hb1c0 hb1f0 hb1l0 hb1c1 hb1f1 hb1l1 hb2c hb2f hb2z hb2c0 hb2f0 hb2l0 hb2c1 hb2f1 hb2l1 hb3c hb3f hb3z hb3c0 hb3f0 hb3l0 hb3c1 hb3f1 hb3l1
    have hok : okB ⟨V, A, D, L, H⟩ ⟨p, v⟩ = true := by simp [okB, hr.out, HS.out.1]
    have HO := Lib.hid hok
    have z0 : w.heap.size < wr.heap.size := by omega
    clear hok
    by_cases hlt : (k : Int) < M
    · by_cases hland : p = t ∧ v = 0
      · obtain ⟨rfl, rfl⟩ := hland
        have hst := lands_rest _ _ _ s _ hr.out ht ⟨rfl, rfl⟩ HS.out
        have HST := Lib.hid hst
        clear hst
        go_wp2_with (first | (go_at_call 31; refine (glanded_at _ _ _ _ true (by simp)).mono ?_; rintro e w7 ⟨rfl, hb7⟩))
        try (have hz7 := hb7.size; obtain ⟨hb7c, hb7f⟩ := bcell hb7; have hb7z := hb7.size; have hb7c0 := fun o => hb7c (w.heap.size) o (by first | (simp; done) | (simp; omega) | (simp at *; omega) | omega); have hb7f0 := fun o => hb7f (w.heap.size) o (by first | (simp; done) | (simp; omega) | (simp at *; omega) | omega); have hb7l0 := below_lt (b := w.heap.size) hb7 (by first | (simp; done) | (simp; omega) | (simp at *; omega) | omega); have hb7c1 := fun o => hb7c (w.heap.size + 1) o (by first | (simp; done) | (simp; omega) | (simp at *; omega) | omega); have hb7f1 := fun o => hb7f (w.heap.size + 1) o (by first | (simp; done) | (simp; omega) | (simp at *; omega) | omega); have hb7l1 := below_lt (b := w.heap.size + 1) hb7 (by first | (simp; done) | (simp; omega) | (simp at *; omega) | omega))
        refine wp_region_ext (by kernel_rfl) (by kernel_rfl) ?_
        repeat (go_big_quiet_step (first | (go_at_call 31; exact ext_call (glanded_at _ _ _ _ true (by simp))) | (go_at_call 30; exact ext_call (gto_at _ _ _ _ _ _ _ _ _ _ _ HO.out rfl)) | (go_at_call 29; exact ext_call (gstep_at _ _ _ _ _ _ _ _ _ _ _ HO.out HST.out))))
        refine wpQuiet_nil ?_
        intro w6 hb6
        replace hb6 := ext_below hb6
        go_wp2
        go_ret
        exact ⟨rfl, by (repeat' (first | (with_reducible exact Below.refl _ _) | (with_reducible assumption) | (with_reducible refine below_drewN ?_ _) | (with_reducible refine Below.drew ?_) | (with_reducible refine below_new ?_ (Nat.le_refl _) _) | (with_reducible refine Below.setCell ?_ ?_ _) | (with_reducible refine below_go ?_ (by assumption) (Nat.le_refl _)) | (simp; done) | (simp; omega) | omega))⟩
      · obtain ⟨p', v', hg⟩ : ∃ p' v', stepG ⟨V, A, D, L, H⟩ ⟨p, v⟩ (toG ⟨V, A, D, L, H⟩ ⟨p, v⟩ t s) = ⟨p', v'⟩ := ⟨_, _, rfl⟩
        have hst := lands_step _ _ t s _ p' v' hr.out ht h1 (show ¬ landed ⟨p, v⟩ t from hland) HS.out hg
        have hnl : ((p == t) && (v == 0)) = false := by
          rw [Bool.and_eq_false_iff, beq_eq_false_iff_ne, beq_eq_false_iff_ne]
          omega
        have HG := Lib.hid hg
        have HT := Lib.hid hst
        have HN := Lib.hid hnl
        clear hg hst hnl hland
        go_wp2_with fail
        refine (glanded_at _ _ _ _ false HN.out).mono ?_
        rintro e w5 ⟨rfl, hb5⟩
        obtain ⟨hb5c, hb5f⟩ := bcell hb5
        have hb5z := hb5.size
        have hb5c0 := fun o => hb5c (w.heap.size) o (by first | (simp; done) | (simp; omega) | (simp at *; omega) | omega)
        have hb5f0 := fun o => hb5f (w.heap.size) o (by first | (simp; done) | (simp; omega) | (simp at *; omega) | omega)
        have hb5l0 := below_lt (b := w.heap.size) hb5 (by first | (simp; done) | (simp; omega) | (simp at *; omega) | omega)
        have hb5c1 := fun o => hb5c (w.heap.size + 1) o (by first | (simp; done) | (simp; omega) | (simp at *; omega) | omega)
        have hb5f1 := fun o => hb5f (w.heap.size + 1) o (by first | (simp; done) | (simp; omega) | (simp at *; omega) | omega)
        have hb5l1 := below_lt (b := w.heap.size + 1) hb5 (by first | (simp; done) | (simp; omega) | (simp at *; omega) | omega)
        go_wp2_with fail
        refine wp_region_ext_tail 8 (by kernel_rfl) (by kernel_rfl) ?_
        simp only [List.take_succ_cons, List.take_zero, List.drop_succ_cons, List.drop_zero]
        repeat (go_big_quiet_step (first | (go_at_call 30; exact ext_call (gto_at V A D L H p v t s _ _ HO.out rfl)) | (go_at_call 29; exact ext_call (gstep_at V A D L H p v _ p' v' _ HO.out HG.out))))
        refine wpQuiet_nil ?_
        intro w6 hb6
        replace hb6 := ext_below hb6
        obtain ⟨hb6c, hb6f⟩ := bcell hb6
        have hb6z := hb6.size
        have hb6c0 := fun o => hb6c (w.heap.size) o (by first | (simp; done) | (simp; omega) | (simp at *; omega) | omega)
        have hb6f0 := fun o => hb6f (w.heap.size) o (by first | (simp; done) | (simp; omega) | (simp at *; omega) | omega)
        have hb6l0 := below_lt (b := w.heap.size) hb6 (by first | (simp; done) | (simp; omega) | (simp at *; omega) | omega)
        have hb6c1 := fun o => hb6c (w.heap.size + 1) o (by first | (simp; done) | (simp; omega) | (simp at *; omega) | omega)
        have hb6f1 := fun o => hb6f (w.heap.size + 1) o (by first | (simp; done) | (simp; omega) | (simp at *; omega) | omega)
        have hb6l1 := below_lt (b := w.heap.size + 1) hb6 (by first | (simp; done) | (simp; omega) | (simp at *; omega) | omega)
        go_wp2
        go_roundw
        case rel =>
          exact ⟨p', v', k + 1, by omega, by rw [show M - ((k + 1 : Nat) : Int) = M - k - 1 by omega]; exact HT, by go_num, by (repeat' (first | (with_reducible exact Below.refl _ _) | (with_reducible assumption) | (with_reducible refine below_drewN ?_ _) | (with_reducible refine Below.drew ?_) | (with_reducible refine below_new ?_ (Nat.le_refl _) _) | (with_reducible refine Below.setCell ?_ ?_ _) | (with_reducible refine below_go ?_ (by assumption) (Nat.le_refl _)) | (simp; done) | (simp; omega) | omega)), by simp; omega, ⟨by go_simp, by go_simp, by go_simp, by go_simp, by go_simp⟩, ⟨by go_simp, by go_simp⟩, fun o => by go_simp⟩
        case measure => simp [intOf]; omega
    · have hland : landed ⟨p, v⟩ t := by
        apply Classical.byContradiction
        intro h
        have := lands_pos _ _ _ _ hr.out h HS.out
        omega
      have hland : p = t ∧ v = 0 := hland
      obtain ⟨rfl, rfl⟩ := hland
      have hst := lands_rest _ _ _ s _ hr.out ht ⟨rfl, rfl⟩ HS.out
      have HST := Lib.hid hst
      clear hst
      go_wp2_with (first | (go_at_call 31; refine (glanded_at _ _ _ _ true (by simp)).mono ?_; rintro e w7 ⟨rfl, hb7⟩))
      try (have hz7 := hb7.size; obtain ⟨hb7c, hb7f⟩ := bcell hb7; have hb7z := hb7.size; have hb7c0 := fun o => hb7c (w.heap.size) o (by first | (simp; done) | (simp; omega) | (simp at *; omega) | omega); have hb7f0 := fun o => hb7f (w.heap.size) o (by first | (simp; done) | (simp; omega) | (simp at *; omega) | omega); have hb7l0 := below_lt (b := w.heap.size) hb7 (by first | (simp; done) | (simp; omega) | (simp at *; omega) | omega); have hb7c1 := fun o => hb7c (w.heap.size + 1) o (by first | (simp; done) | (simp; omega) | (simp at *; omega) | omega); have hb7f1 := fun o => hb7f (w.heap.size + 1) o (by first | (simp; done) | (simp; omega) | (simp at *; omega) | omega); have hb7l1 := below_lt (b := w.heap.size + 1) hb7 (by first | (simp; done) | (simp; omega) | (simp at *; omega) | omega))
      refine wp_region_ext (by kernel_rfl) (by kernel_rfl) ?_
      repeat (go_big_quiet_step (first | (go_at_call 31; exact ext_call (glanded_at _ _ _ _ true (by simp))) | (go_at_call 30; exact ext_call (gto_at _ _ _ _ _ _ _ _ _ _ _ HO.out rfl)) | (go_at_call 29; exact ext_call (gstep_at _ _ _ _ _ _ _ _ _ _ _ HO.out HST.out))))
      refine wpQuiet_nil ?_
      intro w6 hb6
      replace hb6 := ext_below hb6
      go_wp2
      go_ret
      exact ⟨rfl, by (repeat' (first | (with_reducible exact Below.refl _ _) | (with_reducible assumption) | (with_reducible refine below_drewN ?_ _) | (with_reducible refine Below.drew ?_) | (with_reducible refine below_new ?_ (Nat.le_refl _) _) | (with_reducible refine Below.setCell ?_ ?_ _) | (with_reducible refine below_go ?_ (by assumption) (Nat.le_refl _)) | (simp; done) | (simp; omega) | omega))⟩

end Go.Proofs.Ytmlndgmkjdkcfaa
