/- Layer 13: an axis that looks for its switch (HomeFinds): the walk. -/
import Derived.Test.YtmlndgmkjdkcfaaPHome
import Derived.Test.YtmlndgmkjdkcfaaHomeF
import Derived.Test.YtmlndgmkjdkcfaaGenE
import Derived.Test.YtmlndgmkjdkcfaaExtTail
import Derived.Test.YtmlndgmkjdkcfaaRead
namespace Go.Proofs.Ytmlndgmkjdkcfaa
open Go.RowKit
set_option linter.unusedVariables false
set_option linter.unusedSimpArgs false
attribute [local go_sem] ext_cell ext_frozen

set_option maxHeartbeats 1000000 in
theorem creeps_any (v d x : Int) (w : World) (hv : 0 ≤ v ∧ v ≤ 255) (hd : 1 ≤ d ∧ d ≤ 1048576) (hx : slw v 0 d = x) :
    Calls Try.prog 44 #[.int .i64 v, .int .i64 d] w fun e w' => e = .returned (.int .i64 x) ∧ w = w' := by
  have hb := slw_bound v 0 d (by omega) (by omega) hd
  rw [hx] at hb
  have HX := Lib.hid hx
  clear hx
  go_enter Try.func44, Try.ntmps44
  go_wp2_with fail
  go_loop [0, 5] (fun a s => ∃ u t : Int, 0 ≤ u ∧ u ≤ 255 ∧ 0 ≤ t ∧ t ≤ 1099511627776 ∧ a = .int .i64 u ∧ s = .int .i64 t ∧ Hid (t + slw u 0 d = x)) (fun a _ => (intOf a).toNat)
  case atStart => exact ⟨v, 0, by omega, by omega, by omega, by omega, rfl, rfl, Lib.hid (by rw [HX.out]; omega)⟩
  case round =>
    obtain ⟨u, t, hu0, hu1, ht0, ht1, rfl, rfl, HS⟩ := hrel
    by_cases h : d < u
    · have hf := slw_far u 0 d (by omega) (by omega)
      have hs := HS.out
      have hn := slw_nonneg (u - d) 0 d (by omega) (by omega)
      rw [hf] at hs
      have HS2 : Hid (t + (u - d) + slw (u - d) 0 d = x) := Lib.hid (by omega)
      have ht2 : t + (u - d) ≤ 1099511627776 := by omega
      clear hf hs hn HS
      go_wp2
      go_round
      case rel => exact ⟨u - d, t + (u - d), by omega, by omega, by omega, by omega, rfl, rfl, HS2⟩
      case measure => simp [intOf]; omega
    · have hn := slw_near u 0 d (by omega) (by omega)
      have hs := HS.out
      rw [hn] at hs
      have HS2 : Hid (x = t) := Lib.hid (by omega)
      clear hs hn HS
      go_wp2
      go_ret
      exact ⟨by rw [HS2.out]; rfl, rfl⟩

set_option maxRecDepth 100000 in
set_option maxHeartbeats 4000000 in
theorem finds_main (V A D L H a p f c : Int) (w : World) (ha : -32768 ≤ a ∧ a ≤ 32767) (hp : -32768 ≤ p ∧ p ≤ 32767) (hf : 0 ≤ f ∧ f ≤ 60) (hc : 0 ≤ c ∧ c ≤ 255) (hN : Hid (homeB 0 f c = true)) (hR : Hid (rightB ⟨V, A, D, -1073741824, 1073741824⟩ = true))
    (hD : 3 ≤ D ∧ D ≤ 1048576) (hV : 3 ≤ V ∧ V ≤ 1048576) (hap : a ≤ p) (hd : p - a ≤ 1500) :
    Calls Try.prog 14 #[.agg #[.int .i64 V, .int .i64 A, .int .i64 D, .int .i64 L, .int .i64 H], .int .i16 a, .int .i16 p, .int .u8 f, .int .u8 c] w fun e w' => e = .returned (.bool true) ∧ Below w.heap.size w w' := by
  have hcf := homeB_yes hN.out
  have hcf2 : 1 ≤ c ∧ c ≤ f := by omega
  have HF : Hid (FindP ⟨V, A, D, -1073741824, 1073741824⟩ a p f c) := Lib.hid ⟨hR.out, hD.1, hV.1, rfl, rfl, ha, by omega, by omega⟩
  clear hcf
  go_enter Try.func14, Try.ntmps14
  go_wp2_with fail
  refine (awake13 _).mono ?_
  rintro e w1 ⟨rfl, hb1⟩
  obtain ⟨hb1c, hb1f⟩ := bcell hb1
  have hb1z := hb1.size
  have hb1c0 := fun o => hb1c (w.heap.size) o (by first | (simp; done) | (simp; omega) | (simp at *; omega) | omega)
  have hb1f0 := fun o => hb1f (w.heap.size) o (by first | (simp; done) | (simp; omega) | (simp at *; omega) | omega)
  have hb1l0 := below_lt (b := w.heap.size) hb1 (by first | (simp; done) | (simp; omega) | (simp at *; omega) | omega)
  have hB1 : Below w.heap.size w w1 := by (repeat' (first | (with_reducible exact Below.refl _ _) | (with_reducible assumption) | (with_reducible refine below_drewN ?_ _) | (with_reducible refine Below.drew ?_) | (with_reducible refine below_new ?_ (Nat.le_refl _) _) | (with_reducible refine Below.setCell ?_ ?_ _) | (with_reducible refine below_go ?_ (by assumption) (Nat.le_refl _)) | (simp; done) | (simp; omega) | omega))
  clear hb1
  go_wp2_with fail
  refine (hnew_yes _ _ _ hN.out).mono ?_
  rintro e w2 ⟨rfl, hb2⟩
  obtain ⟨hb2c, hb2f⟩ := bcell hb2
  have hb2z := hb2.size
  have hb2c0 := fun o => hb2c (w.heap.size) o (by first | (simp; done) | (simp; omega) | (simp at *; omega) | omega)
  have hb2f0 := fun o => hb2f (w.heap.size) o (by first | (simp; done) | (simp; omega) | (simp at *; omega) | omega)
  have hb2l0 := below_lt (b := w.heap.size) hb2 (by first | (simp; done) | (simp; omega) | (simp at *; omega) | omega)
  have hB2 : Below w.heap.size w w2 := by (repeat' (first | (with_reducible exact Below.refl _ _) | (with_reducible assumption) | (with_reducible refine below_drewN ?_ _) | (with_reducible refine Below.drew ?_) | (with_reducible refine below_new ?_ (Nat.le_refl _) _) | (with_reducible refine Below.setCell ?_ ?_ _) | (with_reducible refine below_go ?_ (by assumption) (Nat.le_refl _)) | (simp; done) | (simp; omega) | omega))
  clear hb2
  go_wp2_with fail
  refine (gright_at _ _ _ _ _ _ true hR.out).mono ?_
  rintro e w3 ⟨rfl, hb3⟩
  obtain ⟨hb3c, hb3f⟩ := bcell hb3
  have hb3z := hb3.size
  have hb3c0 := fun o => hb3c (w.heap.size) o (by first | (simp; done) | (simp; omega) | (simp at *; omega) | omega)
  have hb3f0 := fun o => hb3f (w.heap.size) o (by first | (simp; done) | (simp; omega) | (simp at *; omega) | omega)
  have hb3l0 := below_lt (b := w.heap.size) hb3 (by first | (simp; done) | (simp; omega) | (simp at *; omega) | omega)
  have hb3c1 := fun o => hb3c (w2.heap.size) o (by first | (simp; done) | (simp; omega) | (simp at *; omega) | omega)
  have hb3f1 := fun o => hb3f (w2.heap.size) o (by first | (simp; done) | (simp; omega) | (simp at *; omega) | omega)
  have hb3l1 := below_lt (b := w2.heap.size) hb3 (by first | (simp; done) | (simp; omega) | (simp at *; omega) | omega)
  have hB3 : Below w.heap.size w w3 := by (repeat' (first | (with_reducible exact Below.refl _ _) | (with_reducible assumption) | (with_reducible refine below_drewN ?_ _) | (with_reducible refine Below.drew ?_) | (with_reducible refine below_new ?_ (Nat.le_refl _) _) | (with_reducible refine Below.setCell ?_ ?_ _) | (with_reducible refine below_go ?_ (by assumption) (Nat.le_refl _)) | (simp; done) | (simp; omega) | omega))
  clear hb3
  go_wp2_with fail
  obtain ⟨B, hB⟩ : ∃ B, w2.heap.size = B := ⟨_, rfl⟩
  obtain ⟨G, hG⟩ : ∃ G, w3.heap.size = G := ⟨_, rfl⟩
  rw [hB, hG]
  have zz : w.heap.size < B ∧ B < G := by omega
  have HB := Lib.hid hB
  have HGG := Lib.hid hG
  clear hB hG
  go_loopw [14] (fun u w' => ∃ (k : Nat) (ph P Q : Int), k ≤ 6000 ∧ Hid (FindI ⟨V, A, D, -1073741824, 1073741824⟩ a p f c k ph P Q) ∧ u = .int .i64 k ∧ Below w.heap.size w w' ∧ w.heap.size < B ∧ B < G ∧ G < w'.heap.size ∧
    (∀ o, w'.frozen? ⟨B, o, none⟩ = false) ∧ (∀ o, w'.frozen? ⟨G, o, none⟩ = false) ∧
    w'.cell? ⟨w.heap.size, 0, none⟩ = some (.int .i64 V) ∧ w'.cell? ⟨w.heap.size, 1, none⟩ = some (.int .i64 A) ∧ w'.cell? ⟨w.heap.size, 2, none⟩ = some (.int .i64 D) ∧ w'.cell? ⟨w.heap.size, 3, none⟩ = some (.int .i64 (-1073741824)) ∧ w'.cell? ⟨w.heap.size, 4, none⟩ = some (.int .i64 1073741824) ∧
    w'.cell? ⟨B, 0, none⟩ = some (.int .i64 ph) ∧ w'.cell? ⟨B, 1, none⟩ = some (.int .i64 f) ∧ w'.cell? ⟨B, 2, none⟩ = some (.int .i64 c) ∧ w'.cell? ⟨B, 3, none⟩ = some (.bool false) ∧
    w'.cell? ⟨G, 0, none⟩ = some (.int .i64 P) ∧ w'.cell? ⟨G, 1, none⟩ = some (.int .i64 Q)) (fun u _ => 6000 - (intOf u).toNat)
  case atStart =>
    exact ⟨0, 0, a, 0, by omega, Lib.hid (find_start HF.out), rfl, by (repeat' (first | (with_reducible exact Below.refl _ _) | (with_reducible assumption) | (with_reducible refine below_drewN ?_ _) | (with_reducible refine Below.drew ?_) | (with_reducible refine below_new ?_ (Nat.le_refl _) _) | (with_reducible refine Below.setCell ?_ ?_ _) | (with_reducible refine below_go ?_ (by assumption) (Nat.le_refl _)) | (simp; done) | (simp; omega) | omega)), zz.1, zz.2, by rw [← HGG.out]; simp, fun o => by rw [← HB.out]; go_simp, fun o => by rw [← HGG.out]; go_simp, by go_simp, by go_simp, by go_simp, by go_simp, by go_simp, by rw [← HB.out]; go_simp, by rw [← HB.out]; go_simp, by rw [← HB.out]; go_simp, by rw [← HB.out]; go_simp, by rw [← HGG.out]; go_simp, by rw [← HGG.out]; go_simp⟩
  case round =>
    obtain ⟨k, ph, P, Q, hk, HI, rfl, hbr, z1, z2, z3, fB, fG, l0, l1, l2, l3, l4, h0, h1, h2, h3, g0, g1⟩ := hrel
    clear hB3 hB2 hB1 HB HGG hb1c hb1f hb1z hb1c0 hb1f0 hb1l0 hb2c hb2f hb2z hb2c0 hb2f0 hb2l0 hb3c hb3f hb3z hb3c0 hb3f0 hb3l0 hb3c1 hb3f1 hb3l1
    have hbd := find_bd HF.out HI.out
    have hk6 : (k : Int) < 6000 := by omega
    have z4 : w.heap.size < wr.heap.size := by omega
    have z5 : B < wr.heap.size := by omega
    have hov := find_over HF.out HI.out
    by_cases h4 : ph = 4
    · subst h4
      have HO := Lib.hid (show overB 4 f c = true from hov)
      obtain ⟨e1, e2, e3⟩ := find_end HF.out HI.out rfl
      subst e1
      clear hov HI
      obtain ⟨S, hS⟩ : ∃ S, slw c 0 D = S := ⟨_, rfl⟩
      have hSb := slw_bound c 0 D (by omega) (by omega) (by omega)
      simp only at e3
      rw [hS] at hSb e3
      have HS := Lib.hid hS
      clear hS
      have s1 : IntKind.i64.wrap (p - c) = p - c := IntWalk.i64_in _ (by omega)
      have s2 : IntKind.i64.wrap (p - c - S) = p - c - S := IntWalk.i64_in _ (by omega)
      go_wp2_with fail
      refine (over_at _ _ _ _ _ true HO.out).mono ?_
      rintro e w4 ⟨rfl, hb4⟩
      obtain ⟨hb4c, hb4f⟩ := bcell hb4
      have hb4z := hb4.size
      have hb4c0 := fun o => hb4c (w.heap.size) o (by first | (simp; done) | (simp; omega) | (simp at *; omega) | omega)
      have hb4f0 := fun o => hb4f (w.heap.size) o (by first | (simp; done) | (simp; omega) | (simp at *; omega) | omega)
      have hb4l0 := below_lt (b := w.heap.size) hb4 (by first | (simp; done) | (simp; omega) | (simp at *; omega) | omega)
      have hb4c1 := fun o => hb4c (B) o (by first | (simp; done) | (simp; omega) | (simp at *; omega) | omega)
      have hb4f1 := fun o => hb4f (B) o (by first | (simp; done) | (simp; omega) | (simp at *; omega) | omega)
      have hb4l1 := below_lt (b := B) hb4 (by first | (simp; done) | (simp; omega) | (simp at *; omega) | omega)
      have hb4c2 := fun o => hb4c (G) o (by first | (simp; done) | (simp; omega) | (simp at *; omega) | omega)
      have hb4f2 := fun o => hb4f (G) o (by first | (simp; done) | (simp; omega) | (simp at *; omega) | omega)
      have hb4l2 := below_lt (b := G) hb4 (by first | (simp; done) | (simp; omega) | (simp at *; omega) | omega)
      have hB4 : Below w.heap.size w w4 := by (repeat' (first | (with_reducible exact Below.refl _ _) | (with_reducible assumption) | (with_reducible refine below_drewN ?_ _) | (with_reducible refine Below.drew ?_) | (with_reducible refine below_new ?_ (Nat.le_refl _) _) | (with_reducible refine Below.setCell ?_ ?_ _) | (with_reducible refine below_go ?_ (by assumption) (Nat.le_refl _)) | (simp; done) | (simp; omega) | omega))
      clear hb4 hb4c hb4f
      go_wp2_with fail
      refine wp_region_ext (by kernel_rfl) (by kernel_rfl) ?_
      repeat (go_big_quiet_step (first | (go_at_call 44; exact ext_same (creeps_any c D S _ hc (by omega) HS.out))))
      refine wpQuiet_nil ?_
      intro w8 hb8
      replace hb8 := ext_below hb8
      go_wp2
      go_ret
      exact ⟨rfl, by (repeat' (first | (with_reducible exact Below.refl _ _) | (with_reducible assumption) | (with_reducible refine below_drewN ?_ _) | (with_reducible refine Below.drew ?_) | (with_reducible refine below_new ?_ (Nat.le_refl _) _) | (with_reducible refine Below.setCell ?_ ?_ _) | (with_reducible refine below_go ?_ (by assumption) (Nat.le_refl _)) | (simp; done) | (simp; omega) | omega))⟩
    · have HO := Lib.hid (show overB ph f c = false by rw [hov]; exact decide_eq_false h4)
      have HOK := Lib.hid (find_ok HF.out HI.out)
      obtain ⟨q1, hq1⟩ : ∃ q, decide (p ≤ P) = q := ⟨_, rfl⟩
      obtain ⟨q2, hq2⟩ : ∃ q, (Q == 0) = q := ⟨_, rfl⟩
      obtain ⟨ph', f', c', t', x, hh⟩ : ∃ ph' f' c' t' x, stepH ⟨ph, f, c, false⟩ q1 false false q2 = (⟨ph', f', c', t'⟩, x) := ⟨_, _, _, _, _, rfl⟩
      obtain ⟨P', Q', hg⟩ : ∃ P' Q', stepG ⟨V, A, D, -1073741824, 1073741824⟩ ⟨P, Q⟩ x = ⟨P', Q'⟩ := ⟨_, _, rfl⟩
      obtain ⟨rfl, rfl, rfl, hn⟩ := find_step HF.out HI.out h4 (by omega) ph' f' c' t' x P' Q' (by rw [hq1, hq2]; exact hh) hg
      have HN := Lib.hid hn
      have HH := Lib.hid hh
      have HG := Lib.hid hg
      clear hov hh hg hn h4
      have hq1' := Lib.hid hq1
      have hq2' := Lib.hid hq2
      clear hq1 hq2
      go_wp2_with fail
      refine (over_at _ _ _ _ _ false HO.out).mono ?_
      rintro e w4 ⟨rfl, hb4⟩
      obtain ⟨hb4c, hb4f⟩ := bcell hb4
      have hb4z := hb4.size
      have hb4c0 := fun o => hb4c (w.heap.size) o (by first | (simp; done) | (simp; omega) | (simp at *; omega) | omega)
      have hb4f0 := fun o => hb4f (w.heap.size) o (by first | (simp; done) | (simp; omega) | (simp at *; omega) | omega)
      have hb4l0 := below_lt (b := w.heap.size) hb4 (by first | (simp; done) | (simp; omega) | (simp at *; omega) | omega)
      have hb4c1 := fun o => hb4c (B) o (by first | (simp; done) | (simp; omega) | (simp at *; omega) | omega)
      have hb4f1 := fun o => hb4f (B) o (by first | (simp; done) | (simp; omega) | (simp at *; omega) | omega)
      have hb4l1 := below_lt (b := B) hb4 (by first | (simp; done) | (simp; omega) | (simp at *; omega) | omega)
      have hb4c2 := fun o => hb4c (G) o (by first | (simp; done) | (simp; omega) | (simp at *; omega) | omega)
      have hb4f2 := fun o => hb4f (G) o (by first | (simp; done) | (simp; omega) | (simp at *; omega) | omega)
      have hb4l2 := below_lt (b := G) hb4 (by first | (simp; done) | (simp; omega) | (simp at *; omega) | omega)
      go_wp2_with fail
      rw [hq1'.out, hq2'.out]
      refine (hstep_at _ _ _ _ _ _ _ _ _ _ _ _ _ _ HH.out).mono ?_
      rintro e w5 ⟨rfl, hb5⟩
      obtain ⟨hb5c, hb5f⟩ := bcell hb5
      have hb5z := hb5.size
      have hb5c0 := fun o => hb5c (w.heap.size) o (by first | (simp; done) | (simp; omega) | (simp at *; omega) | omega)
      have hb5f0 := fun o => hb5f (w.heap.size) o (by first | (simp; done) | (simp; omega) | (simp at *; omega) | omega)
      have hb5l0 := below_lt (b := w.heap.size) hb5 (by first | (simp; done) | (simp; omega) | (simp at *; omega) | omega)
      have hb5c1 := fun o => hb5c (B) o (by first | (simp; done) | (simp; omega) | (simp at *; omega) | omega)
      have hb5f1 := fun o => hb5f (B) o (by first | (simp; done) | (simp; omega) | (simp at *; omega) | omega)
      have hb5l1 := below_lt (b := B) hb5 (by first | (simp; done) | (simp; omega) | (simp at *; omega) | omega)
      have hb5c2 := fun o => hb5c (G) o (by first | (simp; done) | (simp; omega) | (simp at *; omega) | omega)
      have hb5f2 := fun o => hb5f (G) o (by first | (simp; done) | (simp; omega) | (simp at *; omega) | omega)
      have hb5l2 := below_lt (b := G) hb5 (by first | (simp; done) | (simp; omega) | (simp at *; omega) | omega)
      go_wp2_with fail
      have hB5 : Below w.heap.size w w5 := by (repeat' (first | (with_reducible exact Below.refl _ _) | (with_reducible assumption) | (with_reducible refine below_drewN ?_ _) | (with_reducible refine Below.drew ?_) | (with_reducible refine below_new ?_ (Nat.le_refl _) _) | (with_reducible refine Below.setCell ?_ ?_ _) | (with_reducible refine below_go ?_ (by assumption) (Nat.le_refl _)) | (simp; done) | (simp; omega) | omega))
      have y1 : w.heap.size < w5.heap.size + 1 := by omega
      have y2 : B < w5.heap.size + 1 := by omega
      have y3 : G < w5.heap.size + 1 := by omega
      refine wp_region_ext_tail 5 (by kernel_rfl) (by kernel_rfl) ?_
      simp only [List.take_succ_cons, List.take_zero, List.drop_succ_cons, List.drop_zero]
      repeat (go_big_quiet_step (first | (go_at_call 29; exact ext_call (gstep_at V A D (-1073741824) 1073741824 P Q _ _ _ _ HOK.out HG.out))))
      refine wpQuiet_nil ?_
      intro w7 hb7
      replace hb7 := ext_below hb7
      obtain ⟨hb7c, hb7f⟩ := bcell hb7
      have hb7z := hb7.size
      have hb7c0 := fun o => hb7c (w.heap.size) o (by first | (simp; done) | (simp; omega) | (simp at *; omega) | omega)
      have hb7f0 := fun o => hb7f (w.heap.size) o (by first | (simp; done) | (simp; omega) | (simp at *; omega) | omega)
      have hb7l0 := below_lt (b := w.heap.size) hb7 (by first | (simp; done) | (simp; omega) | (simp at *; omega) | omega)
      have hb7c1 := fun o => hb7c (B) o (by first | (simp; done) | (simp; omega) | (simp at *; omega) | omega)
      have hb7f1 := fun o => hb7f (B) o (by first | (simp; done) | (simp; omega) | (simp at *; omega) | omega)
      have hb7l1 := below_lt (b := B) hb7 (by first | (simp; done) | (simp; omega) | (simp at *; omega) | omega)
      have hb7c2 := fun o => hb7c (G) o (by first | (simp; done) | (simp; omega) | (simp at *; omega) | omega)
      have hb7f2 := fun o => hb7f (G) o (by first | (simp; done) | (simp; omega) | (simp at *; omega) | omega)
      have hb7l2 := below_lt (b := G) hb7 (by first | (simp; done) | (simp; omega) | (simp at *; omega) | omega)
      have hB7 : Below w.heap.size w w7 := by (repeat' (first | (with_reducible exact Below.refl _ _) | (with_reducible assumption) | (with_reducible refine below_drewN ?_ _) | (with_reducible refine Below.drew ?_) | (with_reducible refine below_new ?_ (Nat.le_refl _) _) | (with_reducible refine Below.setCell ?_ ?_ _) | (with_reducible refine below_go ?_ (by assumption) (Nat.le_refl _)) | (simp; done) | (simp; omega) | omega))
      have y4 : G < w7.heap.size := by omega
      clear hb7 hb7c hb7f hb5c hb5f hb4c hb4f
      go_wp2
      go_roundw
      case rel =>
        exact ⟨k + 1, ph', P', Q', by omega, HN, by go_num, by (repeat' (first | (with_reducible exact Below.refl _ _) | (with_reducible assumption) | (with_reducible refine below_drewN ?_ _) | (with_reducible refine Below.drew ?_) | (with_reducible refine below_new ?_ (Nat.le_refl _) _) | (with_reducible refine Below.setCell ?_ ?_ _) | (with_reducible refine below_go ?_ (by assumption) (Nat.le_refl _)) | (simp; done) | (simp; omega) | omega)), z1, z2, by simp; omega, fun o => by go_simp, fun o => by go_simp, by go_simp, by go_simp, by go_simp, by go_simp, by go_simp, by go_simp, by go_simp, by go_simp, by go_simp, by go_simp, by go_simp⟩
      case measure => simp [intOf]; omega

end Go.Proofs.Ytmlndgmkjdkcfaa
