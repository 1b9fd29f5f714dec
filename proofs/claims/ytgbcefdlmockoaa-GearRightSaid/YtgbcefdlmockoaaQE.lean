/- Contracts of layer 1: the division of 128 bits by 64, of a number that has a high part. -/
import Derived.Test.YtgbcefdlmockoaaQD
namespace Go.Proofs.Ytgbcefdlmockoaa
open Go.RowKit
set_option linter.unusedVariables false
set_option linter.unusedSimpArgs false
attribute [local go_sem] ite_max ite_min vite_max vite_min ext_cell ext_frozen

set_option maxRecDepth 100000 in
set_option maxHeartbeats 4000000 in
theorem div64_high (hi lo y s : Int) (w : World) (hh : 1 ≤ hi ∧ hi < y) (hl : 0 ≤ lo ∧ lo ≤ 18446744073709551615) (hy : 1 ≤ y ∧ y ≤ 18446744073709551615) (hs : 64 - (Lib.bitLen y.toNat : Int) = s) :
    Calls Try.prog 39 #[.int .u64 hi, .int .u64 lo, .int .u64 y] w fun e w' => e = .returned (.tuple #[.int .u64 ((hi * 18446744073709551616 + lo) / y), .int .u64 ((hi * 18446744073709551616 + lo) % y)]) ∧ Below w.heap.size w w' := by
  have q0 : (y == 0) = false := by simp; omega
  have q1 : (hi == 0) = false := by simp; omega
  obtain ⟨hs0, hs1, S, T, eS, eT, eS2, hS1, hTS, hY1, hY2⟩ := lz_bounds y s hy hs
  have hrd : Ready hi lo y S T := ⟨hh, by omega, hS1, hTS, hY1, hY2⟩
  have hp := ready_parts hrd
  obtain ⟨Y, hY⟩ : ∃ Y, y * S = Y := ⟨_, rfl⟩
  obtain ⟨H, hH⟩ : ∃ H, hi * S = H := ⟨_, rfl⟩
  obtain ⟨X, hX⟩ : ∃ X, lo / T = X := ⟨_, rfl⟩
  obtain ⟨N, hN⟩ : ∃ N, H + X = N := ⟨_, rfl⟩
  obtain ⟨Lo, hLo⟩ : ∃ Lo, (lo * S) % 18446744073709551616 = Lo := ⟨_, rfl⟩
  obtain ⟨y1, e1⟩ : ∃ y1, Y / 4294967296 = y1 := ⟨_, rfl⟩
  obtain ⟨y0, e0⟩ : ∃ y0, Y % 4294967296 = y0 := ⟨_, rfl⟩
  obtain ⟨n1, f1⟩ : ∃ n1, Lo / 4294967296 = n1 := ⟨_, rfl⟩
  obtain ⟨n0, f0⟩ : ∃ n0, Lo % 4294967296 = n0 := ⟨_, rfl⟩
  have hN' : hi * S + lo / T = N := by rw [hH, hX]; exact hN
  obtain ⟨hdg, hn0, hD, _⟩ := ready_dg hrd hN' hY hLo e1 e0 f1 f0
  obtain ⟨r1, r2⟩ := ready_end hrd hN' hY hLo e1 e0 f1 f0
  rw [r1, r2]
  clear r1 r2 hN'
  rw [hX, hH, hY, hLo, hN] at hp
  have k1 : IntKind.u64.wrap (y * S) = Y := by rw [hY]; exact IntWalk.u64_in _ (by omega)
  have k3 : bits .and .u64 Y 4294967295 = y0 := by rw [mask32 Y (by omega)]; exact e0
  have k4 : IntKind.u64.wrap (hi * S) = H := by rw [hH]; exact IntWalk.u64_in _ (by omega)
  have k6 : bits .or .u64 H X = N := by rw [or_parts H hi X s.toNat (by rw [← hH, eS2]) (by omega) (by omega) (by rw [← eS2]; omega) (by omega)]; exact hN
  have k7 : IntKind.u64.wrap (lo * S) = Lo := by rw [IntKind.wrap_u64]; exact hLo
  have hLob : 0 ≤ Lo ∧ Lo < 18446744073709551616 := by omega
  have k9 : bits .and .u64 Lo 4294967295 = n0 := by rw [mask32 Lo hLob]; exact f0
  have hst := dg_start hdg
  obtain ⟨Q, hQ⟩ : ∃ Q, dgQ N n1 y1 y0 = Q := ⟨_, rfl⟩
  obtain ⟨R, hR⟩ : ∃ R, dgR N n1 y1 y0 = R := ⟨_, rfl⟩
  have hQb := dgQ_bd hdg
  have hRb := dgR_bd hdg
  have heq := dg_eq N n1 y1 y0
  have hdg2 : Dg R n0 y1 y0 := by rw [← hR]; exact ⟨hRb.1, hn0, hdg.h1, hdg.h0, hRb.2⟩
  obtain ⟨Q2, hQ2⟩ : ∃ Q2, dgQ R n0 y1 y0 = Q2 := ⟨_, rfl⟩
  obtain ⟨R2, hR2⟩ : ∃ R2, dgR R n0 y1 y0 = R2 := ⟨_, rfl⟩
  have hQ2b := dgQ_bd hdg2
  have hR2b := dgR_bd hdg2
  have heq2 := dg_eq R n0 y1 y0
  have hst2 := dg_start hdg2
  rw [hQ, hR, hD] at heq
  rw [hQ2, hR2, hD] at heq2
  rw [hQ] at hQb hst
  rw [hR, hD] at hRb
  rw [hQ2] at hQ2b hst2
  rw [hR2, hD] at hR2b
  rw [hQ, hR, hQ2, hR2]
  have HDG := Lib.hid hdg
  have HDG2 := Lib.hid hdg2
  have hd1 := hdg.h1
  have hd0 := hdg.h0
  have hdn := hdg.hn
  have HQ := Lib.hid hQ
  have HQ2 := Lib.hid hQ2
  -- the first digit's guess
  obtain ⟨qi, hqi⟩ : ∃ qi, N / y1 = qi := ⟨_, rfl⟩
  obtain ⟨p, hp1⟩ : ∃ p, qi * y1 = p := ⟨_, rfl⟩
  rw [hqi, hp1] at hst
  have hpb : 0 ≤ p := by rw [← hp1]; exact Int.mul_nonneg (by omega) (by omega)
  have k10 : IntKind.u64.wrap (qi * y1) = p := by rw [hp1]; exact IntWalk.u64_in _ (by omega)
  have hrr : N % y1 = N - p := by omega
  have hi0 : DgIn N n1 y1 y0 qi (N - p) := ⟨by rw [hp1]; omega, by rw [hQ]; omega, by omega, by omega, by omega⟩
  have HI0 := Lib.hid hi0
  have hr0b : 0 ≤ N - p ∧ N - p < 4294967296 := by omega
  have hqib : 0 ≤ qi ∧ qi ≤ 4294967297 := by omega
  -- what is left of it
  obtain ⟨a1, m1⟩ : ∃ a, IntKind.u64.wrap (N * 4294967296) = a := ⟨_, rfl⟩
  obtain ⟨a2, m2⟩ : ∃ a, IntKind.u64.wrap (a1 + n1) = a := ⟨_, rfl⟩
  obtain ⟨a3, m3⟩ : ∃ a, IntKind.u64.wrap (Q * Y) = a := ⟨_, rfl⟩
  have m4 : IntKind.u64.wrap (a2 - a3) = R := by
    rw [← m2, ← m1, ← m3, IntKind.wrap_u64, IntKind.wrap_u64, IntKind.wrap_u64, IntKind.wrap_u64]
    omega
  -- the second digit's
  obtain ⟨qj, hqj⟩ : ∃ qi, R / y1 = qi := ⟨_, rfl⟩
  obtain ⟨p2, hp2⟩ : ∃ p, qj * y1 = p := ⟨_, rfl⟩
  rw [hqj, hp2] at hst2
  have hp2b : 0 ≤ p2 := by rw [← hp2]; exact Int.mul_nonneg (by omega) (by omega)
  have k11 : IntKind.u64.wrap (qj * y1) = p2 := by rw [hp2]; exact IntWalk.u64_in _ (by omega)
  have hj0 : DgIn R n0 y1 y0 qj (R - p2) := ⟨by rw [hp2]; omega, by rw [hQ2]; omega, by omega, by omega, by omega⟩
  have HJ0 := Lib.hid hj0
  have hr2b : 0 ≤ R - p2 ∧ R - p2 < 4294967296 := by omega
  have hqjb : 0 ≤ qj ∧ qj ≤ 4294967297 := by omega
  obtain ⟨b1, l1⟩ : ∃ a, IntKind.u64.wrap (R * 4294967296) = a := ⟨_, rfl⟩
  obtain ⟨b2, l2⟩ : ∃ a, IntKind.u64.wrap (b1 + n0) = a := ⟨_, rfl⟩
  obtain ⟨b3, l3⟩ : ∃ a, IntKind.u64.wrap (Q2 * Y) = a := ⟨_, rfl⟩
  have l4 : IntKind.u64.wrap (b2 - b3) = R2 := by
    rw [← l2, ← l1, ← l3, IntKind.wrap_u64, IntKind.wrap_u64, IntKind.wrap_u64, IntKind.wrap_u64]
    omega
  have hYb : 9223372036854775808 ≤ Y ∧ Y < 18446744073709551616 := by omega
  have hNb : 0 ≤ N ∧ N < Y := by omega
  have HS := Lib.hid hs
  clear hs hdg hdg2 hi0 hj0 hQ hR hQ2 hR2 heq heq2 hst hst2 hp1 hp2 hrr hrd eS2 hTS hY1 hY2 hY hH hN hLo e0 f0 hD hp
  go_enter Try.func39, Try.ntmps39
  go_wp2_with fail
  refine (lz64_at _ s _ (by omega) HS.out).mono ?_
  rintro e w1 ⟨rfl, rfl⟩
  go_wp2_with fail
  go_loop [15, 16] (fun u v => ∃ q r : Int, u = .int .u64 q ∧ v = .int .u64 r ∧ Hid (DgIn N n1 y1 y0 q r) ∧ 0 ≤ q ∧ q ≤ 4294967297 ∧ 0 ≤ r ∧ r < 4294967296) (fun _ v => 4294967296 - (intOf v).toNat)
  case atStart => exact ⟨qi, N - p, by first | rfl | rw [hqi], rfl, HI0, by omega, by omega, by omega, by omega⟩
  case round =>
    obtain ⟨q, r, rfl, rfl, HI, hq0, hq1, hr0, hr1⟩ := hrel
    by_cases hbig : 4294967296 ≤ q
    · by_cases hbr : 4294967296 ≤ r + y1
      · have hfin := dg_break HDG.out HI.out (.inl hbig) hbr
        rw [HQ.out] at hfin
        obtain rfl : q = Q + 1 := by omega
        clear hfin HI
        go_wp2_with fail
        go_loop [18, 16] (fun u v => ∃ q r : Int, u = .int .u64 q ∧ v = .int .u64 r ∧ Hid (DgIn R n0 y1 y0 q r) ∧ 0 ≤ q ∧ q ≤ 4294967297 ∧ 0 ≤ r ∧ r < 4294967296) (fun _ v => 4294967296 - (intOf v).toNat)
        case atStart => exact ⟨qj, R - p2, by first | rfl | rw [hqj], rfl, HJ0, by omega, by omega, by omega, by omega⟩
        case round =>
          obtain ⟨q, r, rfl, rfl, HI, hq0, hq1, hr0, hr1⟩ := hrel
          by_cases hbig : 4294967296 ≤ q
          · by_cases hbr : 4294967296 ≤ r + y1
            · have hfin := dg_break HDG2.out HI.out (.inl hbig) hbr
              rw [HQ2.out] at hfin
              obtain rfl : q = Q2 + 1 := by omega
              clear hfin HI
              go_wp2
              go_ret2
              exact ⟨rfl, by (repeat' (first | (with_reducible exact Below.refl _ _) | (with_reducible assumption) | (with_reducible refine below_drewN ?_ _) | (with_reducible refine Below.drew ?_) | (with_reducible refine below_new ?_ (Nat.le_refl _) _) | (with_reducible refine Below.setCell ?_ ?_ _) | (with_reducible refine below_go ?_ (by assumption) (Nat.le_refl _)) | (simp; done) | (simp; omega) | omega))⟩
            · have hon := Lib.hid (dg_on HDG2.out HI.out (.inl hbig) (by omega))
              clear HI
              go_wp2
              go_round
              case rel => exact ⟨q - 1, r + y1, rfl, rfl, hon, by omega, by omega, by omega, by omega⟩
              case measure => simp [intOf]; omega
          · have hsm := dg_small HDG2.out HI.out (by omega)
            obtain ⟨z, hz⟩ : ∃ z, q * y0 = z := ⟨_, rfl⟩
            rw [hz] at hsm
            have hz2 : IntKind.u64.wrap (q * y0) = z := by rw [hz]; exact IntWalk.u64_in _ (by omega)
            by_cases ht : 4294967296 * r + n0 < z
            · have ht' : 4294967296 * r + n0 < q * y0 := by rw [hz]; exact ht
              have hge : 1 ≤ q := by
                have a := (dg_down HDG2.out HI.out (.inr ht')).2
                have b := (dgQ_bd HDG2.out).1
                omega
              clear hz
              by_cases hbr : 4294967296 ≤ r + y1
              · have hfin := dg_break HDG2.out HI.out (.inr ht') hbr
                rw [HQ2.out] at hfin
                obtain rfl : q = Q2 + 1 := by omega
                clear ht' hfin HI
                go_wp2
                go_ret2
                exact ⟨rfl, by (repeat' (first | (with_reducible exact Below.refl _ _) | (with_reducible assumption) | (with_reducible refine below_drewN ?_ _) | (with_reducible refine Below.drew ?_) | (with_reducible refine below_new ?_ (Nat.le_refl _) _) | (with_reducible refine Below.setCell ?_ ?_ _) | (with_reducible refine below_go ?_ (by assumption) (Nat.le_refl _)) | (simp; done) | (simp; omega) | omega))⟩
              · have hon := Lib.hid (dg_on HDG2.out HI.out (.inr ht') (by omega))
                clear ht' HI
                go_wp2
                go_round
                case rel => exact ⟨q - 1, r + y1, rfl, rfl, hon, by omega, by omega, by omega, by omega⟩
                case measure => simp [intOf]; omega
            · have hfin := dg_stop HDG2.out HI.out.e HI.out.lo (by rw [hz]; omega)
              rw [HQ2.out] at hfin
              subst hfin
              clear hz HI
              go_wp2
              go_ret2
              exact ⟨rfl, by (repeat' (first | (with_reducible exact Below.refl _ _) | (with_reducible assumption) | (with_reducible refine below_drewN ?_ _) | (with_reducible refine Below.drew ?_) | (with_reducible refine below_new ?_ (Nat.le_refl _) _) | (with_reducible refine Below.setCell ?_ ?_ _) | (with_reducible refine below_go ?_ (by assumption) (Nat.le_refl _)) | (simp; done) | (simp; omega) | omega))⟩
      · have hon := Lib.hid (dg_on HDG.out HI.out (.inl hbig) (by omega))
        clear HI
        go_wp2
        go_round
        case rel => exact ⟨q - 1, r + y1, rfl, rfl, hon, by omega, by omega, by omega, by omega⟩
        case measure => simp [intOf]; omega
    · have hsm := dg_small HDG.out HI.out (by omega)
      obtain ⟨z, hz⟩ : ∃ z, q * y0 = z := ⟨_, rfl⟩
      rw [hz] at hsm
      have hz2 : IntKind.u64.wrap (q * y0) = z := by rw [hz]; exact IntWalk.u64_in _ (by omega)
      by_cases ht : 4294967296 * r + n1 < z
      · have ht' : 4294967296 * r + n1 < q * y0 := by rw [hz]; exact ht
        have hge : 1 ≤ q := by
          have a := (dg_down HDG.out HI.out (.inr ht')).2
          have b := (dgQ_bd HDG.out).1
          omega
        clear hz
        by_cases hbr : 4294967296 ≤ r + y1
        · have hfin := dg_break HDG.out HI.out (.inr ht') hbr
          rw [HQ.out] at hfin
          obtain rfl : q = Q + 1 := by omega
          clear ht' hfin HI
          go_wp2_with fail
          go_loop [18, 16] (fun u v => ∃ q r : Int, u = .int .u64 q ∧ v = .int .u64 r ∧ Hid (DgIn R n0 y1 y0 q r) ∧ 0 ≤ q ∧ q ≤ 4294967297 ∧ 0 ≤ r ∧ r < 4294967296) (fun _ v => 4294967296 - (intOf v).toNat)
          case atStart => exact ⟨qj, R - p2, by first | rfl | rw [hqj], rfl, HJ0, by omega, by omega, by omega, by omega⟩
          case round =>
            obtain ⟨q, r, rfl, rfl, HI, hq0, hq1, hr0, hr1⟩ := hrel
            by_cases hbig : 4294967296 ≤ q
            · by_cases hbr : 4294967296 ≤ r + y1
              · have hfin := dg_break HDG2.out HI.out (.inl hbig) hbr
                rw [HQ2.out] at hfin
                obtain rfl : q = Q2 + 1 := by omega
                clear hfin HI
                go_wp2
                go_ret2
                exact ⟨rfl, by (repeat' (first | (with_reducible exact Below.refl _ _) | (with_reducible assumption) | (with_reducible refine below_drewN ?_ _) | (with_reducible refine Below.drew ?_) | (with_reducible refine below_new ?_ (Nat.le_refl _) _) | (with_reducible refine Below.setCell ?_ ?_ _) | (with_reducible refine below_go ?_ (by assumption) (Nat.le_refl _)) | (simp; done) | (simp; omega) | omega))⟩
              · have hon := Lib.hid (dg_on HDG2.out HI.out (.inl hbig) (by omega))
                clear HI
                go_wp2
                go_round
                case rel => exact ⟨q - 1, r + y1, rfl, rfl, hon, by omega, by omega, by omega, by omega⟩
                case measure => simp [intOf]; omega
            · have hsm := dg_small HDG2.out HI.out (by omega)
              obtain ⟨z, hz⟩ : ∃ z, q * y0 = z := ⟨_, rfl⟩
              rw [hz] at hsm
              have hz2 : IntKind.u64.wrap (q * y0) = z := by rw [hz]; exact IntWalk.u64_in _ (by omega)
              by_cases ht : 4294967296 * r + n0 < z
              · have ht' : 4294967296 * r + n0 < q * y0 := by rw [hz]; exact ht
                have hge : 1 ≤ q := by
                  have a := (dg_down HDG2.out HI.out (.inr ht')).2
                  have b := (dgQ_bd HDG2.out).1
                  omega
                clear hz
                by_cases hbr : 4294967296 ≤ r + y1
                · have hfin := dg_break HDG2.out HI.out (.inr ht') hbr
                  rw [HQ2.out] at hfin
                  obtain rfl : q = Q2 + 1 := by omega
                  clear ht' hfin HI
                  go_wp2
                  go_ret2
                  exact ⟨rfl, by (repeat' (first | (with_reducible exact Below.refl _ _) | (with_reducible assumption) | (with_reducible refine below_drewN ?_ _) | (with_reducible refine Below.drew ?_) | (with_reducible refine below_new ?_ (Nat.le_refl _) _) | (with_reducible refine Below.setCell ?_ ?_ _) | (with_reducible refine below_go ?_ (by assumption) (Nat.le_refl _)) | (simp; done) | (simp; omega) | omega))⟩
                · have hon := Lib.hid (dg_on HDG2.out HI.out (.inr ht') (by omega))
                  clear ht' HI
                  go_wp2
                  go_round
                  case rel => exact ⟨q - 1, r + y1, rfl, rfl, hon, by omega, by omega, by omega, by omega⟩
                  case measure => simp [intOf]; omega
              · have hfin := dg_stop HDG2.out HI.out.e HI.out.lo (by rw [hz]; omega)
                rw [HQ2.out] at hfin
                subst hfin
                clear hz HI
                go_wp2
                go_ret2
                exact ⟨rfl, by (repeat' (first | (with_reducible exact Below.refl _ _) | (with_reducible assumption) | (with_reducible refine below_drewN ?_ _) | (with_reducible refine Below.drew ?_) | (with_reducible refine below_new ?_ (Nat.le_refl _) _) | (with_reducible refine Below.setCell ?_ ?_ _) | (with_reducible refine below_go ?_ (by assumption) (Nat.le_refl _)) | (simp; done) | (simp; omega) | omega))⟩
        · have hon := Lib.hid (dg_on HDG.out HI.out (.inr ht') (by omega))
          clear ht' HI
          go_wp2
          go_round
          case rel => exact ⟨q - 1, r + y1, rfl, rfl, hon, by omega, by omega, by omega, by omega⟩
          case measure => simp [intOf]; omega
      · have hfin := dg_stop HDG.out HI.out.e HI.out.lo (by rw [hz]; omega)
        rw [HQ.out] at hfin
        subst hfin
        clear hz HI
        go_wp2_with fail
        go_loop [18, 16] (fun u v => ∃ q r : Int, u = .int .u64 q ∧ v = .int .u64 r ∧ Hid (DgIn R n0 y1 y0 q r) ∧ 0 ≤ q ∧ q ≤ 4294967297 ∧ 0 ≤ r ∧ r < 4294967296) (fun _ v => 4294967296 - (intOf v).toNat)
        case atStart => exact ⟨qj, R - p2, by first | rfl | rw [hqj], rfl, HJ0, by omega, by omega, by omega, by omega⟩
        case round =>
          obtain ⟨q, r, rfl, rfl, HI, hq0, hq1, hr0, hr1⟩ := hrel
          by_cases hbig : 4294967296 ≤ q
          · by_cases hbr : 4294967296 ≤ r + y1
            · have hfin := dg_break HDG2.out HI.out (.inl hbig) hbr
              rw [HQ2.out] at hfin
              obtain rfl : q = Q2 + 1 := by omega
              clear hfin HI
              go_wp2
              go_ret2
              exact ⟨rfl, by (repeat' (first | (with_reducible exact Below.refl _ _) | (with_reducible assumption) | (with_reducible refine below_drewN ?_ _) | (with_reducible refine Below.drew ?_) | (with_reducible refine below_new ?_ (Nat.le_refl _) _) | (with_reducible refine Below.setCell ?_ ?_ _) | (with_reducible refine below_go ?_ (by assumption) (Nat.le_refl _)) | (simp; done) | (simp; omega) | omega))⟩
            · have hon := Lib.hid (dg_on HDG2.out HI.out (.inl hbig) (by omega))
              clear HI
              go_wp2
              go_round
              case rel => exact ⟨q - 1, r + y1, rfl, rfl, hon, by omega, by omega, by omega, by omega⟩
              case measure => simp [intOf]; omega
          · have hsm := dg_small HDG2.out HI.out (by omega)
            obtain ⟨z, hz⟩ : ∃ z, q * y0 = z := ⟨_, rfl⟩
            rw [hz] at hsm
            have hz2 : IntKind.u64.wrap (q * y0) = z := by rw [hz]; exact IntWalk.u64_in _ (by omega)
            by_cases ht : 4294967296 * r + n0 < z
            · have ht' : 4294967296 * r + n0 < q * y0 := by rw [hz]; exact ht
              have hge : 1 ≤ q := by
                have a := (dg_down HDG2.out HI.out (.inr ht')).2
                have b := (dgQ_bd HDG2.out).1
                omega
              clear hz
              by_cases hbr : 4294967296 ≤ r + y1
              · have hfin := dg_break HDG2.out HI.out (.inr ht') hbr
                rw [HQ2.out] at hfin
                obtain rfl : q = Q2 + 1 := by omega
                clear ht' hfin HI
                go_wp2
                go_ret2
                exact ⟨rfl, by (repeat' (first | (with_reducible exact Below.refl _ _) | (with_reducible assumption) | (with_reducible refine below_drewN ?_ _) | (with_reducible refine Below.drew ?_) | (with_reducible refine below_new ?_ (Nat.le_refl _) _) | (with_reducible refine Below.setCell ?_ ?_ _) | (with_reducible refine below_go ?_ (by assumption) (Nat.le_refl _)) | (simp; done) | (simp; omega) | omega))⟩
              · have hon := Lib.hid (dg_on HDG2.out HI.out (.inr ht') (by omega))
                clear ht' HI
                go_wp2
                go_round
                case rel => exact ⟨q - 1, r + y1, rfl, rfl, hon, by omega, by omega, by omega, by omega⟩
                case measure => simp [intOf]; omega
            · have hfin := dg_stop HDG2.out HI.out.e HI.out.lo (by rw [hz]; omega)
              rw [HQ2.out] at hfin
              subst hfin
              clear hz HI
              go_wp2
              go_ret2
              exact ⟨rfl, by (repeat' (first | (with_reducible exact Below.refl _ _) | (with_reducible assumption) | (with_reducible refine below_drewN ?_ _) | (with_reducible refine Below.drew ?_) | (with_reducible refine below_new ?_ (Nat.le_refl _) _) | (with_reducible refine Below.setCell ?_ ?_ _) | (with_reducible refine below_go ?_ (by assumption) (Nat.le_refl _)) | (simp; done) | (simp; omega) | omega))⟩

end Go.Proofs.Ytgbcefdlmockoaa
