/- Layer 10: SmoothBounds, the walk through the loops. -/
import Derived.Test.YtddakmlnkffgiaaPSmB
namespace Go.Proofs.Ytddakmlnkffgiaa
open Go.RowKit
set_option linter.unusedVariables false
set_option linter.unusedSimpArgs false
attribute [local go_sem] ite_max ite_min vite_max vite_min ext_cell ext_frozen

set_option maxRecDepth 100000 in
set_option maxHeartbeats 2000000 in
theorem bounds_skip (m f : Int) (s : Value) (w : World) (h : ¬ (-1099511627776 ≤ f ∧ f ≤ 1099511627776)) :
    Calls Try.prog 10 #[.int .i64 m, .int .i64 f, s] w fun e w' => e = .returned (.bool true) ∧ Below w.heap.size w w' := by
  by_cases h1 : -1099511627776 ≤ f
  · have h2 : 1099511627776 < f := by omega
    clear h
    go_enter Try.func10, Try.ntmps10
    go_wp2_with fail
    refine (awake10_at _).mono ?_
    rintro e w1 ⟨rfl, hb1⟩
    go_wp2
    go_ret
    exact ⟨rfl, by (repeat' (first | (with_reducible exact Below.refl _ _) | (with_reducible assumption) | (with_reducible refine below_drewN ?_ _) | (with_reducible refine Below.drew ?_) | (with_reducible refine below_new ?_ (Nat.le_refl _) _) | (with_reducible refine Below.setCell ?_ ?_ _) | (with_reducible refine below_go ?_ (by assumption) (Nat.le_refl _)) | (simp; done) | (simp; omega) | omega))⟩
  · clear h
    have h2 : f < -1099511627776 := by omega
    go_enter Try.func10, Try.ntmps10
    go_wp2_with fail
    refine (awake10_at _).mono ?_
    rintro e w1 ⟨rfl, hb1⟩
    go_wp2
    go_ret
    exact ⟨rfl, by (repeat' (first | (with_reducible exact Below.refl _ _) | (with_reducible assumption) | (with_reducible refine below_drewN ?_ _) | (with_reducible refine Below.drew ?_) | (with_reducible refine below_new ?_ (Nat.le_refl _) _) | (with_reducible refine Below.setCell ?_ ?_ _) | (with_reducible refine below_go ?_ (by assumption) (Nat.le_refl _)) | (simp; done) | (simp; omega) | omega))⟩

set_option maxRecDepth 100000 in
set_option maxHeartbeats 2000000 in
theorem bounds_no (m f : Int) (s : Value) (w : World) (hf : -1099511627776 ≤ f ∧ f ≤ 1099511627776) (hm : ¬ (1 ≤ m ∧ m ≤ 16)) :
    Calls Try.prog 10 #[.int .i64 m, .int .i64 f, s] w fun e w' => e = .returned (.bool true) ∧ Below w.heap.size w w' := by
  have HM : Hid ((decide (1 ≤ m ∧ m ≤ 16) && plB f) = false) := Lib.hid (by rw [decide_eq_false hm]; rfl)
  clear hm
  go_enter Try.func10, Try.ntmps10
  go_wp2_with fail
  refine (awake10_at _).mono ?_
  rintro e w1 ⟨rfl, hb1⟩
  go_wp2_with fail
  refine (sm_new_no f m _ HM.out).mono ?_
  rintro e w3 ⟨rfl, hb3⟩
  go_wp2
  go_ret
  exact ⟨rfl, by (repeat' (first | (with_reducible exact Below.refl _ _) | (with_reducible assumption) | (with_reducible refine below_drewN ?_ _) | (with_reducible refine Below.drew ?_) | (with_reducible refine below_new ?_ (Nat.le_refl _) _) | (with_reducible refine Below.setCell ?_ ?_ _) | (with_reducible refine below_go ?_ (by assumption) (Nat.le_refl _)) | (simp; done) | (simp; omega) | omega))⟩

set_option maxRecDepth 100000 in
set_option maxHeartbeats 4000000 in
theorem bounds_yes (m : Nat) (f : Int) (sa : Option Addr) (n cap : Nat) (xs : List Int) (w : World) (hf : -1099511627776 ≤ f ∧ f ≤ 1099511627776) (hm : 1 ≤ m ∧ m ≤ 16) (hn : n ≤ 9223372036854775807)
    (hx : ∀ i, i < n → -32768 ≤ xs[i]?.getD 0 ∧ xs[i]?.getD 0 ≤ 32767) (hc : n = 0 ∨ ∃ b off, sa = some ⟨b, off, none⟩ ∧ b < w.heap.size ∧ ∀ i, i < n → w.cell? ⟨b, off + i, none⟩ = some (.int .i16 (xs[i]?.getD 0))) :
    Calls Try.prog 10 #[.int .i64 (m : Int), .int .i64 f, .slice sa n cap] w fun e w' => e = .returned (.bool true) ∧ Below w.heap.size w w' := by
  have HX := Lib.hid hx
  have HC := Lib.hid hc
  have HF : Hid (plB f = true) := Lib.hid (decide_eq_true (by omega))
  clear hx hc
  go_enter Try.func10, Try.ntmps10
  go_wp2_with fail
  refine (awake10_at _).mono ?_
  rintro e w1 ⟨rfl, hb1⟩
  go_wp2_with fail
  refine (sm_new_w f m _ hm HF.out).mono ?_
  rintro e w3 ⟨g0, rfl, hg0, hb3, o3⟩
  have z3 := hb1.size
  have z4 := hb3.size
  have hg3 := o3.gl
  have hB3 : Below w.heap.size w w3 := by (repeat' (first | (with_reducible exact Below.refl _ _) | (with_reducible assumption) | (with_reducible refine below_drewN ?_ _) | (with_reducible refine Below.drew ?_) | (with_reducible refine below_new ?_ (Nat.le_refl _) _) | (with_reducible refine Below.setCell ?_ ?_ _) | (with_reducible refine below_go ?_ (by assumption) (Nat.le_refl _)) | (simp; done) | (simp; omega) | omega))
  replace o3 := o3.congr (ys := List.replicate (m + 3) f) (fun i hi => by rw [rep_get _ f i (by omega), rep_get _ f i hi])
  have HR0 := Lib.hid (rightW_rep (m + 3) m f hm (by omega) HF.out)
  obtain ⟨o0, ho0⟩ : ∃ o0, sumK (List.replicate (m + 3) f) m = o0 := ⟨_, rfl⟩
  have hob := sumK_bd _ m m (rightW_yes HR0.out).2.2 (Nat.le_refl _)
  rw [ho0] at hob
  have HO0 := Lib.hid ho0
  clear ho0
  go_wp2_with fail
  refine (sm_out_w _ g0 m m o0 _ (o3.below ?bb) HR0.out HO0.out).mono ?_
  case bb => (repeat' (first | (with_reducible exact Below.refl _ _) | (with_reducible assumption) | (with_reducible refine below_drewN ?_ _) | (with_reducible refine Below.drew ?_) | (with_reducible refine below_new ?_ (Nat.le_refl _) _) | (with_reducible refine Below.setCell ?_ ?_ _) | (with_reducible refine below_go ?_ (by assumption) (Nat.le_refl _)) | (simp; done) | (simp; omega) | omega))
  rintro e w2 ⟨rfl, hb2⟩
  obtain ⟨hb2c, hb2f⟩ := bcell hb2
  have hb2z := hb2.size
  have hb2c0 := fun o => hb2c (w3.heap.size) o (by first | (simp; done) | (simp; omega) | (simp at *; omega) | omega)
  have hb2f0 := fun o => hb2f (w3.heap.size) o (by first | (simp; done) | (simp; omega) | (simp at *; omega) | omega)
  have hb2l0 := below_lt (b := w3.heap.size) hb2 (by first | (simp; done) | (simp; omega) | (simp at *; omega) | omega)
  have o2 : OnW w2 (List.replicate (m + 3) f) m g0 m := o3.below (by (repeat' (first | (with_reducible exact Below.refl _ _) | (with_reducible assumption) | (with_reducible refine below_drewN ?_ _) | (with_reducible refine Below.drew ?_) | (with_reducible refine below_new ?_ (Nat.le_refl _) _) | (with_reducible refine Below.setCell ?_ ?_ _) | (with_reducible refine below_go ?_ (by assumption) (Nat.le_refl _)) | (simp; done) | (simp; omega) | omega)))
  have hB2 : Below w.heap.size w w2 := by (repeat' (first | (with_reducible exact Below.refl _ _) | (with_reducible assumption) | (with_reducible refine below_drewN ?_ _) | (with_reducible refine Below.drew ?_) | (with_reducible refine below_new ?_ (Nat.le_refl _) _) | (with_reducible refine Below.setCell ?_ ?_ _) | (with_reducible refine below_go ?_ (by assumption) (Nat.le_refl _)) | (simp; done) | (simp; omega) | omega))
  clear o3
  go_wp2_with fail
  go_loopw [9, 10, 11, 12, 13, 14, 15, 16] (fun q u o v a t r i w' => ∃ (k : Nat) (p d0 oo vv aa M G : Int) (zs : List Int) (g kk : Nat), k ≤ n ∧ k ≤ 300 ∧ i = .int .i64 (k : Int) ∧ q = .int .i64 p ∧ u = .int .i64 d0 ∧ o = .int .i64 oo ∧ v = .int .i64 vv ∧ a = .int .i64 aa ∧ t = .int .i64 M ∧ r = .int .i64 G ∧
    (-1099511627776 - 32768 * (k : Int) ≤ p ∧ p ≤ 1099511627776 + 32768 * (k : Int)) ∧ (-32768 ≤ d0 ∧ d0 ≤ 32767) ∧ (0 ≤ M ∧ M ≤ 32768) ∧ (0 ≤ G ∧ G ≤ 65535) ∧ (-524288 ≤ vv ∧ vv ≤ 524288) ∧ (-1048576 ≤ aa ∧ aa ≤ 1048576) ∧ (-35184372088832 ≤ oo ∧ oo ≤ 35184372088832) ∧
    Hid (zs[0]?.getD 0 = p) ∧ Hid (dK zs 0 = d0) ∧ Hid (sumK zs m = oo) ∧ Hid (zs[0]?.getD 0 - zs[m]?.getD 0 = vv) ∧ Hid (dK zs 0 - dK zs m = aa) ∧ Hid (Hist zs m M G) ∧ Below w.heap.size w w' ∧ Hid (rightW zs m = true) ∧
    w'.cell? ⟨w3.heap.size, 0, none⟩ = some (.slice (some ⟨g, 0, none⟩) m kk) ∧ w'.frozen? ⟨w3.heap.size, 0, none⟩ = false ∧ w3.heap.size < w'.heap.size ∧ g ≠ w3.heap.size ∧ Hid (OnW w' zs m g kk)) (fun _ _ _ _ _ _ _ i _ => n - (intOf i).toNat)
  case atStart =>
    refine ⟨0, f, 0, o0, 0, 0, 0, 0, List.replicate (m + 3) f, g0, m, by omega, by omega, rfl, rfl, rfl, rfl, rfl, rfl, rfl, rfl, by omega, by omega, by omega, by omega, by omega, by omega, by omega, ?_, ?_, HO0, ?_, ?_, Lib.hid (Hist.rep m f), hB2, HR0, by go_simp, by go_simp, ?_, by omega, Lib.hid o2⟩
    · exact Lib.hid (rep_get _ f 0 (by omega))
    · exact Lib.hid (dK_rep _ f 0 (by omega))
    · exact Lib.hid (by rw [rep_get _ f 0 (by omega), rep_get _ f m (by omega)]; omega)
    · exact Lib.hid (by rw [dK_rep _ f 0 (by omega), dK_rep _ f m (by omega)]; omega)
    · have := hb2.size
      simp at this
      omega
  case round =>
    obtain ⟨wo, rfl⟩ : ∃ wo : World, wo = wr := ⟨_, rfl⟩
    obtain ⟨k, p, d0, oo, vv, aa, M, G, zs, g, kk, hk, hk3, rfl, rfl, rfl, rfl, rfl, rfl, rfl, rfl, hpb, hdb, hMb, hGb, hvb, hab, hob2, HP, HD, HO, HV, HA, HH, hbr, HR, hcell, hfz, hsz, hgne, HW⟩ := hrel
    clear hb2c hb2f hb2z hb2c0 hb2f0 hb2l0 hb2 o2
    by_cases hlt : k < n
    · by_cases h300 : k < 300
      · obtain ⟨x, hxe⟩ : ∃ x, xs[k]?.getD 0 = x := ⟨_, rfl⟩
        obtain ⟨b, off, rfl, hb, hcs⟩ : ∃ b off, sa = some ⟨b, off, none⟩ ∧ b < w.heap.size ∧ ∀ i, i < n → w.cell? ⟨b, off + i, none⟩ = some (.int .i16 (xs[i]?.getD 0)) := by
          rcases HC.out with h | h
          · omega
          · exact h
        have hxb := HX.out k hlt
        rw [hxe] at hxb
        have hxc : wo.cell? ⟨b, off + k, none⟩ = some (.int .i16 x) := by rw [hbr.cell (p := ⟨b, off + k, none⟩) hb, hcs k hlt, hxe]
        have hpp : plB (p + x) = true := decide_eq_true (by omega)
        have HPP := Lib.hid hpp
        obtain ⟨zs', hz'⟩ : ∃ zs', (p + x) :: zs = zs' := ⟨_, rfl⟩
        obtain ⟨o', ho'⟩ : ∃ o', sumK zs' m = o' := ⟨_, rfl⟩
        obtain ⟨M', hM'⟩ : ∃ M', max (max M x) (-x) = M' := ⟨_, rfl⟩
        obtain ⟨G', hG'⟩ : ∃ G', max (max G (x - d0)) (d0 - x) = G' := ⟨_, rfl⟩
        have hfacts := bounds_facts zs m M G x M' G' hm.1 HH.out hM' (by rw [HD.out]; exact hG') zs' (by rw [HP.out]; exact hz') o' oo vv aa ho' HO.out HV.out HA.out
        rw [HP.out] at hfacts
        obtain ⟨hH', hw, hbb, hj, hV', hA', hP', hD'⟩ := hfacts
        have hR' := rightW_push zs m (p + x) HR.out HPP.out
        rw [hz'] at hR'
        have hob' := sumK_bd _ m m (rightW_yes hR').2.2 (Nat.le_refl _)
        rw [ho'] at hob'
        have hMb' : 0 ≤ M' ∧ M' ≤ 32768 := by omega
        have hGb' : 0 ≤ G' ∧ G' ≤ 65535 := by omega
        have hT := mul_le16 m M' 32768 hm.2 hMb'.1 hMb'.2
        have hU := mul_le16 m G' 65535 hm.2 hGb'.1 hGb'.2
        obtain ⟨T, hTe⟩ : ∃ T, (m : Int) * M' = T := ⟨_, rfl⟩
        obtain ⟨U, hUe⟩ : ∃ U, (m : Int) * G' = U := ⟨_, rfl⟩
        rw [hTe] at hT hw
        rw [hUe] at hU hbb
        have hTw : IntKind.i64.wrap T = T := by rw [IntKind.wrap_i64]; omega
        have hUw : IntKind.i64.wrap U = U := by rw [IntKind.wrap_i64]; omega
        have HZ' := Lib.hid hz'
        have HO' := Lib.hid ho'
        have HH' := Lib.hid hH'
        have HV' := Lib.hid hV'
        have HA' := Lib.hid hA'
        have HP' := Lib.hid hP'
        have HD' := Lib.hid hD'
        have HR' := Lib.hid hR'
        have hkI : (0 : Int) ≤ (k : Int) ∧ (k : Int) < (n : Int) ∧ (k : Int) < 300 := by omega
        clear hxe hpp hcs hz' ho' hH' hV' hA' hP' hD' hR'
        go_wp2_with fail
        refine (sm_push_w zs g m kk (p + x) _ HW.out HR.out HPP.out).mono ?_
        rw [HZ'.out]
        rintro e w4 ⟨g', k', rfl, hg4, hb4, o4⟩
        have hBr := hbr.trans (hb4.mono hbr.size)
        have hc4 : w4.cell? ⟨w3.heap.size, 0, none⟩ = some (.slice (some ⟨g, 0, none⟩) m kk) := by rw [hb4.cell (p := ⟨w3.heap.size, 0, none⟩) hsz, hcell]
        have hf4 : w4.frozen? ⟨w3.heap.size, 0, none⟩ = false := by rw [hb4.frozen (p := ⟨w3.heap.size, 0, none⟩) hsz, hfz]
        have hz4 := hb4.size
        have hl4 : w3.heap.size < w4.heap.size := by omega
        have os4 := o4.store (a := ⟨w3.heap.size, 0, none⟩) (by show g' ≠ w3.heap.size; omega) (Value.slice (some ⟨g', 0, none⟩) m k')
        clear o4
        go_wp2_with fail
        refine (sm_out_w zs' g' m k' o' _ os4 HR'.out HO'.out).mono ?_
        rintro e w5 ⟨rfl, hb5⟩
        have hzs : w4.heap.size ≤ (w4.setCell ⟨w3.heap.size, 0, none⟩ (Value.slice (some ⟨g', 0, none⟩) m k')).heap.size := ((Below.refl 0 w4).setCell (p := ⟨w3.heap.size, 0, none⟩) (Nat.zero_le _) _).size
        have hc5 : w5.cell? ⟨w3.heap.size, 0, none⟩ = some (.slice (some ⟨g', 0, none⟩) m k') := by
          rw [hb5.cell (p := ⟨w3.heap.size, 0, none⟩) (Nat.lt_of_lt_of_le hl4 hzs)]
          go_simp
        have hf5 : w5.frozen? ⟨w3.heap.size, 0, none⟩ = false := by
          rw [hb5.frozen (p := ⟨w3.heap.size, 0, none⟩) (Nat.lt_of_lt_of_le hl4 hzs)]
          go_simp
        have hl5 : w3.heap.size < w5.heap.size := Nat.lt_of_lt_of_le hl4 (Nat.le_trans hzs hb5.size)
        have hW5 := os4.below hb5
        have hB5 : Below w.heap.size w w5 := (hBr.setCell (p := ⟨w3.heap.size, 0, none⟩) (by show w.heap.size ≤ w3.heap.size; omega) _).trans (hb5.mono (Nat.le_trans hBr.size hzs))
        have hc0 := hW5.cs 0 (by omega)
        rw [HP'.out] at hc0
        have HW5 := Lib.hid hW5
        have hg'ne : g' ≠ w3.heap.size := by omega
        have hmI : (0 : Int) < (m : Int) := by omega
        have hpx : -2199023255552 ≤ p + x ∧ p + x ≤ 2199023255552 := plB_yes HPP.out
        clear hb5 os4 hc4 hf4 hb4 hxc hBr hzs hW5 hcell hfz HW hz4 hl4
        go_wp2_with fail
        go_region
        all_goals go_wp2_with fail
        all_goals clear hc0
        go_loopw [22, 23, 24] (fun lo hi j w' => ∃ (jj : Nat) (l h : Int), jj ≤ m ∧ lo = .int .i64 l ∧ hi = .int .i64 h ∧ j = .int .i64 (jj : Int) ∧ (-2199023255552 ≤ l ∧ l ≤ 2199023255552) ∧ (-2199023255552 ≤ h ∧ h ≤ 2199023255552) ∧ Hid (∀ i, i < jj → l ≤ zs'[i]?.getD 0 ∧ zs'[i]?.getD 0 ≤ h) ∧ Below w.heap.size w w' ∧
          w'.cell? ⟨w3.heap.size, 0, none⟩ = some (.slice (some ⟨g', 0, none⟩) m k') ∧ w'.frozen? ⟨w3.heap.size, 0, none⟩ = false ∧ w3.heap.size < w'.heap.size ∧ Hid (OnW w' zs' m g' k')) (fun _ _ j _ => m - (intOf j).toNat)
        case atStart => exact ⟨0, p + x, p + x, by omega, rfl, rfl, rfl, hpx, hpx, Lib.hid (fun i hi => by omega), by (repeat' (first | (with_reducible exact Below.refl _ _) | (with_reducible assumption) | (with_reducible refine below_drewN ?_ _) | (with_reducible refine Below.drew ?_) | (with_reducible refine below_new ?_ (Nat.le_refl _) _) | (with_reducible refine Below.setCell ?_ ?_ _) | (with_reducible refine below_go ?_ (by assumption) (Nat.le_refl _)) | (simp; done) | (simp; omega) | omega)), by go_simp, by go_simp, by simpa using hl5, Lib.hid (HW5.out.below (by (repeat' (first | (with_reducible exact Below.refl _ _) | (with_reducible assumption) | (with_reducible refine below_drewN ?_ _) | (with_reducible refine Below.drew ?_) | (with_reducible refine below_new ?_ (Nat.le_refl _) _) | (with_reducible refine Below.setCell ?_ ?_ _) | (with_reducible refine below_go ?_ (by assumption) (Nat.le_refl _)) | (simp; done) | (simp; omega) | omega))))⟩
        case round =>
          clear hc5 hf5 hl5 HW5 hB5
          obtain ⟨jj, l, h, hjj, rfl, rfl, rfl, hlb, hhb, HLH, hbq, hcq, hfq, hlq, HWq⟩ := hrel
          by_cases hjm : jj < m
          · have hjI : (0 : Int) ≤ (jj : Int) ∧ (jj : Int) < (m : Int) := by omega
            obtain ⟨z, hz⟩ : ∃ z, zs'[jj]?.getD 0 = z := ⟨_, rfl⟩
            have hcz := HWq.out.cs jj hjm
            have hzb := (rightW_yes HR'.out).2.2 jj hjm
            have hnew : ∀ i, i < jj + 1 → min l z ≤ zs'[i]?.getD 0 ∧ zs'[i]?.getD 0 ≤ max h z := by
              intro i hi
              by_cases c : i < jj
              · have := HLH.out i c
                omega
              · obtain rfl : i = jj := by omega
                omega
            rw [hz] at hcz hzb
            have HNEW := Lib.hid hnew
            clear hz hnew
            go_wp2_with fail
            go_region
            all_goals go_wp2
            all_goals go_roundw
            case rel => exact ⟨jj + 1, min l z, max h z, by omega, rfl, rfl, by go_num, by omega, by omega, HNEW, by (repeat' (first | (with_reducible exact Below.refl _ _) | (with_reducible assumption) | (with_reducible refine below_drewN ?_ _) | (with_reducible refine Below.drew ?_) | (with_reducible refine below_new ?_ (Nat.le_refl _) _) | (with_reducible refine Below.setCell ?_ ?_ _) | (with_reducible refine below_go ?_ (by assumption) (Nat.le_refl _)) | (simp; done) | (simp; omega) | omega)), by go_simp, by go_simp, by simpa using hlq, Lib.hid (HWq.out.below (by (repeat' (first | (with_reducible exact Below.refl _ _) | (with_reducible assumption) | (with_reducible refine below_drewN ?_ _) | (with_reducible refine Below.drew ?_) | (with_reducible refine below_new ?_ (Nat.le_refl _) _) | (with_reducible refine Below.setCell ?_ ?_ _) | (with_reducible refine below_go ?_ (by assumption) (Nat.le_refl _)) | (simp; done) | (simp; omega) | omega))))⟩
            case measure => simp [intOf]; omega
          · obtain rfl : jj = m := by omega
            have hsb := sum_between zs' jj l h HLH.out
            rw [HO'.out] at hsb
            have hX := mul_ge16 jj l 2199023255552 hm.2 (by omega) (by omega) (by omega)
            have hY := mul_ge16 jj h 2199023255552 hm.2 (by omega) (by omega) (by omega)
            obtain ⟨X, hXe⟩ : ∃ X, (jj : Int) * l = X := ⟨_, rfl⟩
            obtain ⟨Y, hYe⟩ : ∃ Y, (jj : Int) * h = Y := ⟨_, rfl⟩
            rw [hXe] at hX hsb
            rw [hYe] at hY hsb
            have hXw : IntKind.i64.wrap X = X := by rw [IntKind.wrap_i64]; omega
            have hYw : IntKind.i64.wrap Y = Y := by rw [IntKind.wrap_i64]; omega
            go_wp2
            go_roundw
            case rel => exact ⟨k + 1, p + x, x, o', o' - oo, o' - oo - vv, M', G', zs', g', k', by omega, by omega, by go_num, rfl, rfl, rfl, rfl, rfl, rfl, rfl, by omega, by omega, by omega, by omega, by omega, by omega, by omega, HP', HD', HO', HV', HA', HH', hbq, HR', hcq, hfq, hlq, hg'ne, HWq⟩
            case measure => simp [intOf]; omega
      · have hkI : (k : Int) < (n : Int) ∧ ¬ (k : Int) < 300 := by omega
        go_wp2
        go_ret
        exact ⟨rfl, hbr⟩
    · have hkI : ¬ (k : Int) < (n : Int) := by omega
      go_wp2
      go_ret
      exact ⟨rfl, hbr⟩

end Go.Proofs.Ytddakmlnkffgiaa
