/- Layer 10: SmoothRests, the walk through the two loops. -/
import Derived.Test.YtddakmlnkffgiaaSmI
namespace Go.Proofs.Ytddakmlnkffgiaa
open Go.RowKit
set_option linter.unusedVariables false
set_option linter.unusedSimpArgs false
attribute [local go_sem] ite_max ite_min vite_max vite_min ext_cell ext_frozen

set_option maxRecDepth 100000 in
set_option maxHeartbeats 4000000 in
theorem rests_yes (m : Nat) (f pos : Int) (sa : Option Addr) (n cap : Nat) (xs : List Int) (w : World) (hf : -1099511627776 ≤ f ∧ f ≤ 1099511627776) (hp : plB pos = true) (hm : 1 ≤ m ∧ m ≤ 16) (hn : n ≤ 9223372036854775807)
    (hx : ∀ i, i < n → -32768 ≤ xs[i]?.getD 0 ∧ xs[i]?.getD 0 ≤ 32767) (hc : n = 0 ∨ ∃ b off, sa = some ⟨b, off, none⟩ ∧ b < w.heap.size ∧ ∀ i, i < n → w.cell? ⟨b, off + i, none⟩ = some (.int .i16 (xs[i]?.getD 0))) :
    Calls Try.prog 11 #[.int .i64 (m : Int), .int .i64 f, .slice sa n cap, .int .i64 pos] w fun e w' => e = .returned (.bool true) ∧ Below w.heap.size w w' := by
  have HP := Lib.hid hp
  have HX := Lib.hid hx
  have HC := Lib.hid hc
  have HF : Hid (plB f = true) := Lib.hid (decide_eq_true (by omega))
  clear hp hx hc
  go_enter Try.func11, Try.ntmps11
  go_wp2_with fail
  refine (awake10_at _).mono ?_
  rintro e w1 ⟨rfl, hb1⟩
  go_wp2_with fail
  refine (lawplace_any pos _).mono ?_
  rw [HP.out]
  rintro e w2 ⟨rfl, rfl⟩
  go_wp2_with fail
  refine (sm_new_w f m _ hm HF.out).mono ?_
  rintro e w3 ⟨g0, rfl, hg0, hb3, o3⟩
  have z3 := hb1.size
  have z4 := hb3.size
  have hg3 := o3.gl
  have hB3 : Below w.heap.size w w3 := by (repeat' (first | (with_reducible exact Below.refl _ _) | (with_reducible assumption) | (with_reducible refine below_drewN ?_ _) | (with_reducible refine Below.drew ?_) | (with_reducible refine below_new ?_ (Nat.le_refl _) _) | (with_reducible refine Below.setCell ?_ ?_ _) | (with_reducible refine below_go ?_ (by assumption) (Nat.le_refl _)) | (simp; done) | (simp; omega) | omega))
  go_wp2_with fail
  go_loopw [1, 11] (fun q i w' => ∃ (k : Nat) (p : Int) (zs : List Int) (g kk : Nat), k ≤ n ∧ k ≤ 300 ∧ q = .int .i64 p ∧ i = .int .i64 (k : Int) ∧ (-1099511627776 - 32768 * (k : Int) ≤ p ∧ p ≤ 1099511627776 + 32768 * (k : Int)) ∧ Below w.heap.size w w' ∧ Hid (rightW zs m = true) ∧
    w'.cell? ⟨w3.heap.size, 0, none⟩ = some (.slice (some ⟨g, 0, none⟩) m kk) ∧ w'.frozen? ⟨w3.heap.size, 0, none⟩ = false ∧ w3.heap.size < w'.heap.size ∧ g ≠ w3.heap.size ∧ Hid (OnW w' zs m g kk)) (fun _ i _ => n - (intOf i).toNat)
  case atStart =>
    refine ⟨0, f, List.replicate m f, g0, m, by omega, by omega, rfl, rfl, by omega, by (repeat' (first | (with_reducible exact Below.refl _ _) | (with_reducible assumption) | (with_reducible refine below_drewN ?_ _) | (with_reducible refine Below.drew ?_) | (with_reducible refine below_new ?_ (Nat.le_refl _) _) | (with_reducible refine Below.setCell ?_ ?_ _) | (with_reducible refine below_go ?_ (by assumption) (Nat.le_refl _)) | (simp; done) | (simp; omega) | omega)), Lib.hid (rightW_same m f hm HF.out), by go_simp, by go_simp, by simp, by omega, Lib.hid (o3.below (by (repeat' (first | (with_reducible exact Below.refl _ _) | (with_reducible assumption) | (with_reducible refine below_drewN ?_ _) | (with_reducible refine Below.drew ?_) | (with_reducible refine below_new ?_ (Nat.le_refl _) _) | (with_reducible refine Below.setCell ?_ ?_ _) | (with_reducible refine below_go ?_ (by assumption) (Nat.le_refl _)) | (simp; done) | (simp; omega) | omega))))⟩
  case round =>
    obtain ⟨k, p, zs, g, kk, hk, hk3, rfl, rfl, hpb, hbr, HR, hcell, hfz, hsz, hgne, HO⟩ := hrel
    by_cases hlt : k < n
    · by_cases h300 : k < 300
      · obtain ⟨x, hxe⟩ : ∃ x, xs[k]?.getD 0 = x := ⟨_, rfl⟩
        obtain ⟨b, off, rfl, hb, hcs⟩ : ∃ b off, sa = some ⟨b, off, none⟩ ∧ b < w.heap.size ∧ ∀ i, i < n → w.cell? ⟨b, off + i, none⟩ = some (.int .i16 (xs[i]?.getD 0)) := by
          rcases HC.out with h | h
          · omega
          · exact h
        have hxb := HX.out k hlt
        rw [hxe] at hxb
        have hxc : wr.cell? ⟨b, off + k, none⟩ = some (.int .i16 x) := by rw [hbr.cell (p := ⟨b, off + k, none⟩) hb, hcs k hlt, hxe]
        have hpp : plB (p + x) = true := decide_eq_true (by omega)
        have HPP := Lib.hid hpp
        have hkI : (0 : Int) ≤ (k : Int) ∧ (k : Int) < (n : Int) ∧ (k : Int) < 300 := by omega
        clear hxe hpp hcs
        go_wp2_with fail
        refine (sm_push_w zs g m kk (p + x) _ HO.out HR.out HPP.out).mono ?_
        rintro e w4 ⟨g', k', rfl, hg4, hb4, o4⟩
        have hBr := hbr.trans (hb4.mono hbr.size)
        have hc4 : w4.cell? ⟨w3.heap.size, 0, none⟩ = some (.slice (some ⟨g, 0, none⟩) m kk) := by rw [hb4.cell (p := ⟨w3.heap.size, 0, none⟩) hsz, hcell]
        have hf4 : w4.frozen? ⟨w3.heap.size, 0, none⟩ = false := by rw [hb4.frozen (p := ⟨w3.heap.size, 0, none⟩) hsz, hfz]
        have hz4 := hb4.size
        have hl4 : w3.heap.size < w4.heap.size := by omega
        have os4 := o4.store (a := ⟨w3.heap.size, 0, none⟩) (by show g' ≠ w3.heap.size; omega) (Value.slice (some ⟨g', 0, none⟩) m k')
        have HO4 := Lib.hid os4
        have HR4 := Lib.hid (rightW_push zs m (p + x) HR.out HPP.out)
        clear os4 o4
        go_wp2
        go_roundw
        case rel =>
          refine ⟨k + 1, p + x, _, g', k', by omega, by omega, rfl, by go_num, by omega, by (repeat' (first | (with_reducible exact Below.refl _ _) | (with_reducible assumption) | (with_reducible refine below_drewN ?_ _) | (with_reducible refine Below.drew ?_) | (with_reducible refine below_new ?_ (Nat.le_refl _) _) | (with_reducible refine Below.setCell ?_ ?_ _) | (with_reducible refine below_go ?_ (by assumption) (Nat.le_refl _)) | (simp; done) | (simp; omega) | omega)), HR4, by go_simp, by go_simp, ?_, by omega, HO4⟩
          exact Nat.lt_of_lt_of_le hl4 ((Below.refl 0 w4).setCell (p := ⟨w3.heap.size, 0, none⟩) (Nat.zero_le _) _).size
        case measure => simp [intOf]; omega
      · have hkI : (k : Int) < (n : Int) ∧ ¬ (k : Int) < 300 := by omega
        go_wp2_with fail
        go_loopw [12] (fun i w' => ∃ (j : Nat) (zs : List Int) (g kk : Nat), j ≤ m ∧ i = .int .i64 (j : Int) ∧ Below w.heap.size w w' ∧ Hid (rightW zs m = true) ∧ Hid (oneK zs j pos) ∧
          w'.cell? ⟨w3.heap.size, 0, none⟩ = some (.slice (some ⟨g, 0, none⟩) m kk) ∧ w'.frozen? ⟨w3.heap.size, 0, none⟩ = false ∧ w3.heap.size < w'.heap.size ∧ g ≠ w3.heap.size ∧ Hid (OnW w' zs m g kk)) (fun i _ => m - (intOf i).toNat)
        case atStart => exact ⟨0, zs, g, kk, by omega, rfl, hbr, HR, Lib.hid (fun i hi => by omega), hcell, hfz, hsz, hgne, HO⟩
        case round =>
          clear hbr hcell hfz hsz hgne HO
          obtain ⟨j, zs, g, kk, hj, rfl, hbr, HR, H1, hcell, hfz, hsz, hgne, HO⟩ := hrel
          by_cases hjm : j < m
          · have hjI : (j : Int) < (m : Int) := by omega
            go_wp2_with fail
            refine (sm_push_w zs g m kk pos _ HO.out HR.out HP.out).mono ?_
            rintro e w4 ⟨g', k', rfl, hg4, hb4, o4⟩
            have hBr := hbr.trans (hb4.mono hbr.size)
            have hc4 : w4.cell? ⟨w3.heap.size, 0, none⟩ = some (.slice (some ⟨g, 0, none⟩) m kk) := by rw [hb4.cell (p := ⟨w3.heap.size, 0, none⟩) hsz, hcell]
            have hf4 : w4.frozen? ⟨w3.heap.size, 0, none⟩ = false := by rw [hb4.frozen (p := ⟨w3.heap.size, 0, none⟩) hsz, hfz]
            have hz4 := hb4.size
            have hl4 : w3.heap.size < w4.heap.size := by omega
            have HO4 := Lib.hid (o4.store (a := ⟨w3.heap.size, 0, none⟩) (by show g' ≠ w3.heap.size; omega) (Value.slice (some ⟨g', 0, none⟩) m k'))
            have HR4 := Lib.hid (rightW_push zs m pos HR.out HP.out)
            clear o4
            go_wp2
            go_roundw
            case rel =>
              refine ⟨j + 1, _, g', k', by omega, by go_num, by (repeat' (first | (with_reducible exact Below.refl _ _) | (with_reducible assumption) | (with_reducible refine below_drewN ?_ _) | (with_reducible refine Below.drew ?_) | (with_reducible refine below_new ?_ (Nat.le_refl _) _) | (with_reducible refine Below.setCell ?_ ?_ _) | (with_reducible refine below_go ?_ (by assumption) (Nat.le_refl _)) | (simp; done) | (simp; omega) | omega)), HR4, Lib.hid (oneK_push H1.out), by go_simp, by go_simp, ?_, by omega, HO4⟩
              exact Nat.lt_of_lt_of_le hl4 ((Below.refl 0 w4).setCell (p := ⟨w3.heap.size, 0, none⟩) (Nat.zero_le _) _).size
            case measure => simp [intOf]; omega
          · obtain rfl : j = m := by omega
            have HREST := Lib.hid (rest_one HR.out H1.out)
            have HSUM := Lib.hid (sumK_one H1.out)
            have H1p := Lib.hid (oneK_le (oneK_push H1.out) (Nat.le_succ _))
            obtain ⟨t, ht⟩ : ∃ t, (j : Int) * pos = t := ⟨_, rfl⟩
            have hw : IntKind.i64.wrap t = t := by
              have h1 := sumK_bd zs j j (rightW_yes HR.out).2.2 (Nat.le_refl _)
              rw [HSUM.out, ht] at h1
              rw [IntKind.wrap_i64]
              omega
            rw [ht] at HSUM
            go_wp2_with fail
            go_region_with (first
              | (go_at_call 47; refine (sm_rest_w zs g j kk true _ (HO.out.below ?bb) HREST.out).mono ?_; (case bb => (repeat' (first | (with_reducible exact Below.refl _ _) | (with_reducible assumption) | (with_reducible refine below_drewN ?_ _) | (with_reducible refine Below.drew ?_) | (with_reducible refine below_new ?_ (Nat.le_refl _) _) | (with_reducible refine Below.setCell ?_ ?_ _) | (with_reducible refine below_go ?_ (by assumption) (Nat.le_refl _)) | (simp; done) | (simp; omega) | omega))); rintro e w5 ⟨rfl, hb5⟩; have hB5 : Below wr.heap.size wr w5 := (by (repeat' (first | (with_reducible exact Below.refl _ _) | (with_reducible assumption) | (with_reducible refine below_drewN ?_ _) | (with_reducible refine Below.drew ?_) | (with_reducible refine below_new ?_ (Nat.le_refl _) _) | (with_reducible refine Below.setCell ?_ ?_ _) | (with_reducible refine below_go ?_ (by assumption) (Nat.le_refl _)) | (simp; done) | (simp; omega) | omega))); have hc5 := (hB5.cell (p := ⟨w3.heap.size, 0, none⟩) hsz).trans hcell)
              | (go_at_call 44; refine (sm_out_w zs g j kk t _ (HO.out.below ?bb) HR.out HSUM.out).mono ?_; (case bb => (repeat' (first | (with_reducible exact Below.refl _ _) | (with_reducible assumption) | (with_reducible refine below_drewN ?_ _) | (with_reducible refine Below.drew ?_) | (with_reducible refine below_new ?_ (Nat.le_refl _) _) | (with_reducible refine Below.setCell ?_ ?_ _) | (with_reducible refine below_go ?_ (by assumption) (Nat.le_refl _)) | (simp; done) | (simp; omega) | omega))); rintro e w6 ⟨rfl, hb6⟩; have hB6 : Below wr.heap.size wr w6 := (by (repeat' (first | (with_reducible exact Below.refl _ _) | (with_reducible assumption) | (with_reducible refine below_drewN ?_ _) | (with_reducible refine Below.drew ?_) | (with_reducible refine below_new ?_ (Nat.le_refl _) _) | (with_reducible refine Below.setCell ?_ ?_ _) | (with_reducible refine below_go ?_ (by assumption) (Nat.le_refl _)) | (simp; done) | (simp; omega) | omega))); have hc6 := (hB6.cell (p := ⟨w3.heap.size, 0, none⟩) hsz).trans hcell)
              | (go_at_call 45; refine (sm_push_w zs g j kk pos _ (HO.out.below ?bb) HR.out HP.out).mono ?_; (case bb => (repeat' (first | (with_reducible exact Below.refl _ _) | (with_reducible assumption) | (with_reducible refine below_drewN ?_ _) | (with_reducible refine Below.drew ?_) | (with_reducible refine below_new ?_ (Nat.le_refl _) _) | (with_reducible refine Below.setCell ?_ ?_ _) | (with_reducible refine below_go ?_ (by assumption) (Nat.le_refl _)) | (simp; done) | (simp; omega) | omega))); rintro e w7 ⟨g7, k7, rfl, hg7, hb7, o7⟩; have hB7 : Below wr.heap.size wr w7 := (by (repeat' (first | (with_reducible exact Below.refl _ _) | (with_reducible assumption) | (with_reducible refine below_drewN ?_ _) | (with_reducible refine Below.drew ?_) | (with_reducible refine below_new ?_ (Nat.le_refl _) _) | (with_reducible refine Below.setCell ?_ ?_ _) | (with_reducible refine below_go ?_ (by assumption) (Nat.le_refl _)) | (simp; done) | (simp; omega) | omega))); have hc7 := (hB7.cell (p := ⟨w3.heap.size, 0, none⟩) hsz).trans hcell)
              | (go_at_call 48; refine (lawsame_at (pos :: zs) zs g7 g j k7 kk true _ o7 (HO.out.below ?bb) (same_one H1p.out H1.out)).mono ?_; (case bb => (repeat' (first | (with_reducible exact Below.refl _ _) | (with_reducible assumption) | (with_reducible refine below_drewN ?_ _) | (with_reducible refine Below.drew ?_) | (with_reducible refine below_new ?_ (Nat.le_refl _) _) | (with_reducible refine Below.setCell ?_ ?_ _) | (with_reducible refine below_go ?_ (by assumption) (Nat.le_refl _)) | (simp; done) | (simp; omega) | omega))); rintro e w8 ⟨rfl, hb8⟩))
            all_goals go_wp2
            all_goals go_ret
            all_goals exact ⟨rfl, by (repeat' (first | (with_reducible exact Below.refl _ _) | (with_reducible assumption) | (with_reducible refine below_drewN ?_ _) | (with_reducible refine Below.drew ?_) | (with_reducible refine below_new ?_ (Nat.le_refl _) _) | (with_reducible refine Below.setCell ?_ ?_ _) | (with_reducible refine below_go ?_ (by assumption) (Nat.le_refl _)) | (simp; done) | (simp; omega) | omega))⟩
    · have hkI : ¬ (k : Int) < (n : Int) := by omega
      go_wp2_with fail
      go_loopw [12] (fun i w' => ∃ (j : Nat) (zs : List Int) (g kk : Nat), j ≤ m ∧ i = .int .i64 (j : Int) ∧ Below w.heap.size w w' ∧ Hid (rightW zs m = true) ∧ Hid (oneK zs j pos) ∧
        w'.cell? ⟨w3.heap.size, 0, none⟩ = some (.slice (some ⟨g, 0, none⟩) m kk) ∧ w'.frozen? ⟨w3.heap.size, 0, none⟩ = false ∧ w3.heap.size < w'.heap.size ∧ g ≠ w3.heap.size ∧ Hid (OnW w' zs m g kk)) (fun i _ => m - (intOf i).toNat)
      case atStart => exact ⟨0, zs, g, kk, by omega, rfl, hbr, HR, Lib.hid (fun i hi => by omega), hcell, hfz, hsz, hgne, HO⟩
      case round =>
        clear hbr hcell hfz hsz hgne HO
        obtain ⟨j, zs, g, kk, hj, rfl, hbr, HR, H1, hcell, hfz, hsz, hgne, HO⟩ := hrel
        by_cases hjm : j < m
        · have hjI : (j : Int) < (m : Int) := by omega
          go_wp2_with fail
          refine (sm_push_w zs g m kk pos _ HO.out HR.out HP.out).mono ?_
          rintro e w4 ⟨g', k', rfl, hg4, hb4, o4⟩
          have hBr := hbr.trans (hb4.mono hbr.size)
          have hc4 : w4.cell? ⟨w3.heap.size, 0, none⟩ = some (.slice (some ⟨g, 0, none⟩) m kk) := by rw [hb4.cell (p := ⟨w3.heap.size, 0, none⟩) hsz, hcell]
          have hf4 : w4.frozen? ⟨w3.heap.size, 0, none⟩ = false := by rw [hb4.frozen (p := ⟨w3.heap.size, 0, none⟩) hsz, hfz]
          have hz4 := hb4.size
          have hl4 : w3.heap.size < w4.heap.size := by omega
          have HO4 := Lib.hid (o4.store (a := ⟨w3.heap.size, 0, none⟩) (by show g' ≠ w3.heap.size; omega) (Value.slice (some ⟨g', 0, none⟩) m k'))
          have HR4 := Lib.hid (rightW_push zs m pos HR.out HP.out)
          clear o4
          go_wp2
          go_roundw
          case rel =>
            refine ⟨j + 1, _, g', k', by omega, by go_num, by (repeat' (first | (with_reducible exact Below.refl _ _) | (with_reducible assumption) | (with_reducible refine below_drewN ?_ _) | (with_reducible refine Below.drew ?_) | (with_reducible refine below_new ?_ (Nat.le_refl _) _) | (with_reducible refine Below.setCell ?_ ?_ _) | (with_reducible refine below_go ?_ (by assumption) (Nat.le_refl _)) | (simp; done) | (simp; omega) | omega)), HR4, Lib.hid (oneK_push H1.out), by go_simp, by go_simp, ?_, by omega, HO4⟩
            exact Nat.lt_of_lt_of_le hl4 ((Below.refl 0 w4).setCell (p := ⟨w3.heap.size, 0, none⟩) (Nat.zero_le _) _).size
          case measure => simp [intOf]; omega
        · obtain rfl : j = m := by omega
          have HREST := Lib.hid (rest_one HR.out H1.out)
          have HSUM := Lib.hid (sumK_one H1.out)
          have H1p := Lib.hid (oneK_le (oneK_push H1.out) (Nat.le_succ _))
          obtain ⟨t, ht⟩ : ∃ t, (j : Int) * pos = t := ⟨_, rfl⟩
          have hw : IntKind.i64.wrap t = t := by
            have h1 := sumK_bd zs j j (rightW_yes HR.out).2.2 (Nat.le_refl _)
            rw [HSUM.out, ht] at h1
            rw [IntKind.wrap_i64]
            omega
          rw [ht] at HSUM
          go_wp2_with fail
          go_region_with (first
            | (go_at_call 47; refine (sm_rest_w zs g j kk true _ (HO.out.below ?bb) HREST.out).mono ?_; (case bb => (repeat' (first | (with_reducible exact Below.refl _ _) | (with_reducible assumption) | (with_reducible refine below_drewN ?_ _) | (with_reducible refine Below.drew ?_) | (with_reducible refine below_new ?_ (Nat.le_refl _) _) | (with_reducible refine Below.setCell ?_ ?_ _) | (with_reducible refine below_go ?_ (by assumption) (Nat.le_refl _)) | (simp; done) | (simp; omega) | omega))); rintro e w5 ⟨rfl, hb5⟩; have hB5 : Below wr.heap.size wr w5 := (by (repeat' (first | (with_reducible exact Below.refl _ _) | (with_reducible assumption) | (with_reducible refine below_drewN ?_ _) | (with_reducible refine Below.drew ?_) | (with_reducible refine below_new ?_ (Nat.le_refl _) _) | (with_reducible refine Below.setCell ?_ ?_ _) | (with_reducible refine below_go ?_ (by assumption) (Nat.le_refl _)) | (simp; done) | (simp; omega) | omega))); have hc5 := (hB5.cell (p := ⟨w3.heap.size, 0, none⟩) hsz).trans hcell)
            | (go_at_call 44; refine (sm_out_w zs g j kk t _ (HO.out.below ?bb) HR.out HSUM.out).mono ?_; (case bb => (repeat' (first | (with_reducible exact Below.refl _ _) | (with_reducible assumption) | (with_reducible refine below_drewN ?_ _) | (with_reducible refine Below.drew ?_) | (with_reducible refine below_new ?_ (Nat.le_refl _) _) | (with_reducible refine Below.setCell ?_ ?_ _) | (with_reducible refine below_go ?_ (by assumption) (Nat.le_refl _)) | (simp; done) | (simp; omega) | omega))); rintro e w6 ⟨rfl, hb6⟩; have hB6 : Below wr.heap.size wr w6 := (by (repeat' (first | (with_reducible exact Below.refl _ _) | (with_reducible assumption) | (with_reducible refine below_drewN ?_ _) | (with_reducible refine Below.drew ?_) | (with_reducible refine below_new ?_ (Nat.le_refl _) _) | (with_reducible refine Below.setCell ?_ ?_ _) | (with_reducible refine below_go ?_ (by assumption) (Nat.le_refl _)) | (simp; done) | (simp; omega) | omega))); have hc6 := (hB6.cell (p := ⟨w3.heap.size, 0, none⟩) hsz).trans hcell)
            | (go_at_call 45; refine (sm_push_w zs g j kk pos _ (HO.out.below ?bb) HR.out HP.out).mono ?_; (case bb => (repeat' (first | (with_reducible exact Below.refl _ _) | (with_reducible assumption) | (with_reducible refine below_drewN ?_ _) | (with_reducible refine Below.drew ?_) | (with_reducible refine below_new ?_ (Nat.le_refl _) _) | (with_reducible refine Below.setCell ?_ ?_ _) | (with_reducible refine below_go ?_ (by assumption) (Nat.le_refl _)) | (simp; done) | (simp; omega) | omega))); rintro e w7 ⟨g7, k7, rfl, hg7, hb7, o7⟩; have hB7 : Below wr.heap.size wr w7 := (by (repeat' (first | (with_reducible exact Below.refl _ _) | (with_reducible assumption) | (with_reducible refine below_drewN ?_ _) | (with_reducible refine Below.drew ?_) | (with_reducible refine below_new ?_ (Nat.le_refl _) _) | (with_reducible refine Below.setCell ?_ ?_ _) | (with_reducible refine below_go ?_ (by assumption) (Nat.le_refl _)) | (simp; done) | (simp; omega) | omega))); have hc7 := (hB7.cell (p := ⟨w3.heap.size, 0, none⟩) hsz).trans hcell)
            | (go_at_call 48; refine (lawsame_at (pos :: zs) zs g7 g j k7 kk true _ o7 (HO.out.below ?bb) (same_one H1p.out H1.out)).mono ?_; (case bb => (repeat' (first | (with_reducible exact Below.refl _ _) | (with_reducible assumption) | (with_reducible refine below_drewN ?_ _) | (with_reducible refine Below.drew ?_) | (with_reducible refine below_new ?_ (Nat.le_refl _) _) | (with_reducible refine Below.setCell ?_ ?_ _) | (with_reducible refine below_go ?_ (by assumption) (Nat.le_refl _)) | (simp; done) | (simp; omega) | omega))); rintro e w8 ⟨rfl, hb8⟩))
          all_goals go_wp2
          all_goals go_ret
          all_goals exact ⟨rfl, by (repeat' (first | (with_reducible exact Below.refl _ _) | (with_reducible assumption) | (with_reducible refine below_drewN ?_ _) | (with_reducible refine Below.drew ?_) | (with_reducible refine below_new ?_ (Nat.le_refl _) _) | (with_reducible refine Below.setCell ?_ ?_ _) | (with_reducible refine below_go ?_ (by assumption) (Nat.le_refl _)) | (simp; done) | (simp; omega) | omega))⟩

end Go.Proofs.Ytddakmlnkffgiaa
