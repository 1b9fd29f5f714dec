/- Layer 12: a line does what the document says (LineOne): the walk. -/
import Derived.Test.YtddakmlnkffgiaaLineJ0
import Derived.Deep.CutBlock
import Derived.Deep.DeepCutAuto
namespace Go.Proofs.Ytddakmlnkffgiaa
open Go.RowKit
set_option linter.unusedVariables false
set_option linter.unusedSimpArgs false
attribute [local go_sem] ite_max ite_min vite_max vite_min ext_cell ext_frozen extS_cell extS_frozen

set_option maxRecDepth 100000 in
set_option maxHeartbeats 4000000 in
theorem walk_one (zs : List OpS) (b off cap n : Nat) (w : World) (hb0 : b < w.heap.size) (hn : n ≤ cap) (hcap : cap ≤ 9223372036854775807) (HN : Hid (zs.length = n))
    (hc : Hid (∀ (i : Nat) (x : OpS), zs[i]? = some x → ∀ j, j < 2 → w.cell? ⟨b, off + i * 2 + j, none⟩ = x.cells[j]?)) :
    Calls Try.prog 8 #[.slice (some ⟨b, off, none⟩) n cap] w fun e w' => e = .returned (.bool true) ∧ Below w.heap.size w w' := by
  go_enter Try.func8, Try.ntmps8
  go_wp2_with fail
  refine (awake12 _).mono ?_
  rintro e w1 ⟨rfl, hb1⟩
  have hz1 : w.heap.size ≤ w1.heap.size := hb1.size
  go_wp2_with fail
  obtain ⟨B, hB⟩ : ∃ B, w1.heap.size = B := ⟨_, rfl⟩
  rw [hB]
  have hbB : b < B := by omega
  go_loopw [4, 5, 6] (fun g t i w' => ∃ (g' t' i' : Nat) (ns ws : List CmdS) (A D : Option Addr) (nn mm c d : Nat), i' ≤ 200 ∧ i' ≤ n ∧ t' ≤ i' ∧ g = .int .i64 g' ∧ t = .int .i64 t' ∧ i = .int .i64 i' ∧ Hid (StL w w' B ns ws A D nn mm c d) ∧ Hid (StN ns ws nn mm g' t')) (fun _ _ i _ => 200 - (intOf i).toNat)
  case atStart =>
    subst hB
    refine ⟨0, 0, 0, [], [], none, none, 0, 0, 0, 0, by omega, by omega, by omega, rfl, rfl, rfl, Lib.hid ⟨by (repeat' (first | (with_reducible exact Below.refl _ _) | (with_reducible assumption) | (with_reducible refine below_drewN ?_ _) | (with_reducible refine Below.drew ?_) | (with_reducible refine below_new ?_ (Nat.le_refl _) _) | (with_reducible refine Below.setCell ?_ ?_ _) | (with_reducible refine below_go ?_ (by assumption) (Nat.le_refl _)) | (simp; done) | (simp; omega) | omega)), by simp, by go_simp, by go_simp, fun o => by go_simp, nil_line⟩, Lib.hid ⟨rfl, rfl, rfl, fun k x h => by simp at h, rfl⟩⟩
  case round =>
    obtain ⟨g, t, i, ns, ws, A, D, nn, mm, c, d, hi, hin, hti, rfl, rfl, rfl, HS, HM⟩ := hrel
    have l0 := HS.out.c0
    have l1 := HS.out.c1
    have lf := HS.out.fr
    have hbr := HS.out.bel
    have hlB := HS.out.lt
    by_cases h200 : i < n ∧ i < 200
    · obtain ⟨h1, h2⟩ := h200
      obtain ⟨⟨kd, md⟩, hx⟩ : ∃ x, zs[i]? = some x := ⟨_, List.getElem?_eq_getElem (by rw [HN.out]; exact h1)⟩
      have o0 := (hbr.cell (p := ⟨b, off + i * 2 + 0, none⟩) hb0).trans (hc.out i _ hx 0 (by omega))
      have o1 := (hbr.cell (p := ⟨b, off + i * 2 + 1, none⟩) hb0).trans (hc.out i _ hx 1 (by omega))
      simp only [OpS.cells, List.getElem?_cons_zero, List.getElem?_cons_succ, Nat.add_zero] at o0 o1
      have i0 : (0 : Int) ≤ (i : Int) := by omega
      have i1 : (i : Int) < (n : Int) := by omega
      have i2 : (i : Int) < 200 := by omega
      clear hx
      have HL := Lib.hid HS.out.line
      have hbw : b < wr.heap.size := Nat.lt_of_lt_of_le hb0 hbr.size
      have hbB : ¬ b = B := by omega
      have hwB : w.heap.size ≤ B := by omega
      have hwB2 : w.heap.size ≤ wr.heap.size := hbr.size
      go_upto_block 2 with fail
      go_cut [5, 7] from 16 to 134 (fun tv ov wx => ∃ (t1 L : Nat) (ns ws : List CmdS) (A D : Option Addr) (nn mm c d : Nat), t1 ≤ i + 1 ∧ tv = .int .i64 t1 ∧ Hid (OutV wx ov L g) ∧ Hid (StL w wx B ns ws A D nn mm c d) ∧ Hid (StN ns ws nn mm (g + L) t1))
      case first =>
        by_cases k0 : kd = 0
        · subst k0
          have hB63 : ¬ B = wr.heap.size := by omega
          have hB64 : ¬ w1.heap.size = wr.heap.size := by omega
          have hb63 : ¬ b = wr.heap.size := by omega
          have hwt : IntKind.i64.wrap ((t : Int) + 1) = (t : Int) + 1 := IntWalk.i64_in _ (by omega)
          obtain ⟨R, hR⟩ : ∃ R, addR ns ws ⟨(t : Int) + 1, 0, 0, 0, md, 0, 0⟩ = R := ⟨_, rfl⟩
          have HA := Lib.hid (fun (W : World) (hb : Below wr.heap.size wr W) => show Calls Try.prog 28 #[.agg #[.slice A nn c, .slice D mm d], .agg #[.int .i64 ((t : Int) + 1), .int .i64 0, .int .i64 0, .int .i64 0, .int .i64 md, .int .i64 0, .int .i64 0]] W (AddPost W R.ns R.ws R.ids R.e) from ladd_at ns ws _ (B + 1) ⟨(t : Int) + 1, 0, 0, 0, md, 0, 0⟩ R W (HL.out.below hb) hR)
          have HALL := Lib.hid (addR_all HM.out hR (by simp))
          clear hR
          go_wp2_with fail
          go_cut [8, 9, 10] from 38 to 51 (fun p o e wx => ∃ (q : Nat) (A2 D2 : Option Addr) (c2 d2 : Nat), p = .pointer (some ⟨q, 0, none⟩) ∧ e = .int .i64 R.e ∧ Hid (AddM wr wx q R A2 D2 c2 d2 o))
          case first =>
            go_region_with (first | (go_at_call 28; (with_reducible refine (HA.out _ ?b1).mono ?_); (case b1 => (repeat' (first | (with_reducible exact Below.refl _ _) | (with_reducible assumption) | (with_reducible refine below_drewN ?_ _) | (with_reducible refine Below.drew ?_) | (with_reducible refine below_new ?_ (Nat.le_refl _) _) | (with_reducible refine Below.setCell ?_ ?_ _) | (with_reducible refine below_go ?_ (by assumption) (Nat.le_refl _)) | (simp; done) | (simp; omega) | omega))); rintro e w2 ⟨v2, i2, rfl, hl2, hi2, hb2⟩; (obtain ⟨a2, b2, rfl, ⟨A2, c2, rfl, x2⟩, ⟨D2, d2, rfl, y2⟩⟩ := hl2); (try ((have kz : wr.heap.size < w2.heap.size := by (have := hb2.size; simp at this; omega; done)))); (try ((have k0 : w2.cell? ⟨wr.heap.size, 0, none⟩ = some (.slice none 0 0) := by (rw [hb2.cell (p := ⟨wr.heap.size, 0, none⟩) (by simp; done)]; go_simp; done)))); (try ((have k1 : w2.cell? ⟨wr.heap.size, 1, none⟩ = some (.slice none 0 0) := by (rw [hb2.cell (p := ⟨wr.heap.size, 1, none⟩) (by simp; done)]; go_simp; done)))); (try ((have kf : ∀ o, w2.frozen? ⟨wr.heap.size, o, none⟩ = false := by (intro o; rw [hb2.frozen (p := ⟨wr.heap.size, o, none⟩) (by simp; done)]; go_simp; done))))))
            all_goals go_wp2_with fail
            all_goals (try go_simp)
            all_goals go_meet
            all_goals
              have hl3 : LineV w2 _ R.ns R.ws (.agg #[.slice A2 R.ns.length c2, .slice D2 R.ws.length d2]) := ⟨_, _, rfl, ⟨A2, c2, rfl, x2⟩, ⟨D2, d2, rfl, y2⟩⟩
              first
                | (refine ⟨w2.heap.size, A2, D2, c2, d2, ?_, ?_, ?_⟩; (· go_simp; done); (· go_simp; done))
                | (refine ⟨wr.heap.size, A2, D2, c2, d2, ?_, ?_, ?_⟩; (· go_simp; done); (· go_simp; done))
              try go_simp
              refine Lib.hid ⟨?_, ?_, ?_, ?_, ?_, ?_, ?_⟩
              · (repeat' (first | (with_reducible exact Below.refl _ _) | (with_reducible assumption) | (with_reducible refine below_drewN ?_ _) | (with_reducible refine Below.drew ?_) | (with_reducible refine below_new ?_ (Nat.le_refl _) _) | (with_reducible refine Below.setCell ?_ ?_ _) | (with_reducible refine below_go ?_ (by assumption) (Nat.le_refl _)) | (simp; done) | (simp; omega) | omega))
              · first | (simp; done) | (simp; omega) | (have := hb2.size; simp at this; simp; omega)
              · first | (simp; done) | (simp; omega)
              · go_simp
              · go_simp
              · first | exact ((hl3.store (p := ⟨wr.heap.size, 0, none⟩) (by simp) _).store (p := ⟨wr.heap.size, 1, none⟩) (by simp) _).base0 (by simp) | exact (hl3.below (by (repeat' (first | (with_reducible exact Below.refl _ _) | (with_reducible assumption) | (with_reducible refine below_drewN ?_ _) | (with_reducible refine Below.drew ?_) | (with_reducible refine below_new ?_ (Nat.le_refl _) _) | (with_reducible refine Below.setCell ?_ ?_ _) | (with_reducible refine below_go ?_ (by assumption) (Nat.le_refl _)) | (simp; done) | (simp; omega) | omega)))).base0 (by simp)
              · first | exact ((hi2.store (p := ⟨wr.heap.size, 0, none⟩) (by simp) _).store (p := ⟨wr.heap.size, 1, none⟩) (by simp) _).base0 (by simp) | exact (hi2.below (by (repeat' (first | (with_reducible exact Below.refl _ _) | (with_reducible assumption) | (with_reducible refine below_drewN ?_ _) | (with_reducible refine Below.drew ?_) | (with_reducible refine below_new ?_ (Nat.le_refl _) _) | (with_reducible refine Below.setCell ?_ ?_ _) | (with_reducible refine below_go ?_ (by assumption) (Nat.le_refl _)) | (simp; done) | (simp; omega) | omega)))).base0 (by simp)
          case rest =>
            obtain ⟨q, A2, D2, c2, d2, rfl, rfl, HMM⟩ := hcut
            clear HA
            have hall := HALL.out
            clear HALL
            obtain ⟨Rn, Rw, Ri, Re⟩ := R
            simp only at hall HMM ⊢
            have mb := HMM.out.bel
            have lq := HMM.out.lq
            have lt := HMM.out.lt
            have m0 := HMM.out.c0
            have m1 := HMM.out.c1
            have z0 : wc.cell? ⟨B, 0, none⟩ = some (.slice A nn c) := (mb.cell hlB).trans l0
            have z1 : wc.cell? ⟨B, 1, none⟩ = some (.slice D mm d) := (mb.cell hlB).trans l1
            have zf : ∀ o, wc.frozen? ⟨B, o, none⟩ = false := fun o => (mb.frozen hlB).trans (lf o)
            have y0 := (mb.cell (p := ⟨b, off + i * 2, none⟩) hbw).trans o0
            have y1 := (mb.cell (p := ⟨b, off + i * 2 + 1, none⟩) hbw).trans o1
            have hzm := mb.size
            rcases hall with ⟨rfl, h5⟩ | ⟨rfl, h5⟩ | ⟨rfl, hN, hS⟩
            · clear l0 l1 lf o0 o1
              have HMB := Lib.hid mb
              rcases h5 with h5 | ⟨h5, h6⟩
              · go_wp2_with fail
                all_goals
                  go_roundw
                  (case rel => exact ⟨g, t, i + 1, ns, ws, A, D, nn, mm, c, d, by omega, by omega, by omega, rfl, rfl, by go_num, Lib.hid (HS.out.below HMB.out), HM⟩)
                  (case measure => simp [intOf]; omega)
              · go_wp2_with fail
                all_goals
                  go_roundw
                  (case rel => exact ⟨g, t, i + 1, ns, ws, A, D, nn, mm, c, d, by omega, by omega, by omega, rfl, rfl, by go_num, Lib.hid (HS.out.below HMB.out), HM⟩)
                  (case measure => simp [intOf]; omega)
            · subst h5
              have HMB := Lib.hid mb
              go_wp2_with fail
              all_goals
                go_roundw
                (case rel => exact ⟨g, t, i + 1, ns, ws, A, D, nn, 4, c, d, by omega, by omega, by omega, rfl, rfl, by go_num, Lib.hid (HS.out.below HMB.out), HM⟩)
                (case measure => simp [intOf]; omega)
            · have HNN := Lib.hid hN
              have HSS := Lib.hid hS
              clear hN hS l0 l1 lf o0 o1
              obtain ⟨k1, hk1⟩ : ∃ k, Rn.length = k := ⟨_, rfl⟩
              obtain ⟨k2, hk2⟩ : ∃ k, Rw.length = k := ⟨_, rfl⟩
              have HK1 := Lib.hid hk1
              have HK2 := Lib.hid hk2
              rw [hk1] at m0
              rw [hk2] at m1
              clear hk1 hk2
              have HMB := Lib.hid mb
              have hnq : ¬ B = q := by omega
              go_wp2_with fail
              go_meet
              refine ⟨t + 1, Ri.length, Rn, Rw, A2, D2, k1, k2, c2, d2, by omega, by go_num, Lib.hid ?_, Lib.hid ⟨?_, ?_, ?_, ?_, ?_, ?_⟩, ?_⟩
              · exact OutV.of_ids ((HMM.out.ids.store (p := ⟨B, 0, none⟩) hlB _).store (p := ⟨B, 1, none⟩) hlB _) HSS.out
              · have := HMB.out
                (repeat' (first | (with_reducible exact Below.refl _ _) | (with_reducible assumption) | (with_reducible refine below_drewN ?_ _) | (with_reducible refine Below.drew ?_) | (with_reducible refine below_new ?_ (Nat.le_refl _) _) | (with_reducible refine Below.setCell ?_ ?_ _) | (with_reducible refine below_go ?_ (by assumption) (Nat.le_refl _)) | (simp; done) | (simp; omega) | omega))
              · simp; omega
              · go_simp
              · go_simp
              · intro o; go_simp
              · have h := HMM.out.line
                simp only [HK1.out, HK2.out] at h
                exact ((h.store (p := ⟨B, 0, none⟩) hlB _).store (p := ⟨B, 1, none⟩) hlB _).base0 (by omega)
              · have h := HNN.out
                simp only [HK1.out, HK2.out] at h
                exact Lib.hid h
        · by_cases k1 : kd = 1
          · subst k1
            have hcase : (ns = [] ∧ ws = []) ∨ ∃ x, ns = [x] := by
              have h1 := lineB_yes HM.out.ok
              match ns, h1.1, h1.2.2.1 with
              | [], _, h3 => exact Or.inl ⟨rfl, List.eq_nil_of_length_eq_zero (h3 rfl)⟩
              | [x], _, _ => exact Or.inr ⟨x, rfl⟩
              | _ :: _ :: _, h2, _ => simp at h2
            rcases hcase with ⟨rfl, rfl⟩ | ⟨x, rfl⟩
            · obtain rfl : nn = 0 := HM.out.hn.symm
              obtain rfl : mm = 0 := HM.out.hm.symm
              have HC := Lib.hid (fun (W : World) (hb : Below wr.heap.size wr W) => show Calls Try.prog 29 #[.agg #[.slice A 0 c, .slice D 0 d]] W (EndPost W [] [] 0) from lend_none [] _ (B + 1) W (HL.out.below hb) HM.out.ok)
              clear HL
              go_wp2_with fail
              (with_reducible refine (HC.out _ ?b1).mono ?_)
              case b1 => (repeat' (first | (with_reducible exact Below.refl _ _) | (with_reducible assumption) | (with_reducible refine below_drewN ?_ _) | (with_reducible refine Below.drew ?_) | (with_reducible refine below_new ?_ (Nat.le_refl _) _) | (with_reducible refine Below.setCell ?_ ?_ _) | (with_reducible refine below_go ?_ (by assumption) (Nat.le_refl _)) | (simp; done) | (simp; omega) | omega))
              rintro e w2 ⟨v2, rfl, hl2, hb2⟩
              obtain ⟨a2, b2, rfl, ⟨A2, c2, rfl, x2⟩, ⟨D2, d2, rfl, y2⟩⟩ := hl2
              simp only [List.length_nil] at x2 y2 ⊢
              have hB2 := hb2.size
              have z0 : w2.cell? ⟨B, 0, none⟩ = some (.slice A 0 c) := (hb2.cell hlB).trans l0
              have z1 : w2.cell? ⟨B, 1, none⟩ = some (.slice D 0 d) := (hb2.cell hlB).trans l1
              have zf : ∀ o, w2.frozen? ⟨B, o, none⟩ = false := fun o => (hb2.frozen hlB).trans (lf o)
              have HL2 := Lib.hid (show LineV w2 wr.heap.size [] [] (.agg #[.slice A2 0 c2, .slice D2 0 d2]) from ⟨_, _, rfl, ⟨A2, c2, rfl, x2⟩, ⟨D2, d2, rfl, y2⟩⟩)
              have HB2 := Lib.hid hb2
              have hlB2 : B < w2.heap.size := by omega
              have hnB : ¬ B = w2.heap.size := by omega
              clear x2 y2 hb2 HC l0 l1 lf o0 o1
              go_wp2_with fail
              go_meet
              refine ⟨t, 0, [], [], A2, D2, 0, 0, c2, d2, by omega, rfl, Lib.hid OutV.nil, Lib.hid ⟨?_, ?_, ?_, ?_, ?_, ?_⟩, HM⟩
              · have := HB2.out
                (repeat' (first | (with_reducible exact Below.refl _ _) | (with_reducible assumption) | (with_reducible refine below_drewN ?_ _) | (with_reducible refine Below.drew ?_) | (with_reducible refine below_new ?_ (Nat.le_refl _) _) | (with_reducible refine Below.setCell ?_ ?_ _) | (with_reducible refine below_go ?_ (by assumption) (Nat.le_refl _)) | (simp; done) | (simp; omega) | omega))
              · simp; omega
              · go_simp
              · go_simp
              · intro o; go_simp
              · exact (((HL2.out.store (p := ⟨B, 0, none⟩) hlB _).store (p := ⟨B, 1, none⟩) hlB _).below ((Below.refl _ _).alloc (Nat.le_refl _) _)).base0 (by omega)
            · obtain rfl : nn = 1 := HM.out.hn.symm
              obtain ⟨hid, hne⟩ := end_all HM.out
              obtain ⟨N1, hN1⟩ : ∃ l, ws.take 1 = l := ⟨_, rfl⟩
              obtain ⟨N2, hN2⟩ : ∃ l, ws.drop 1 = l := ⟨_, rfl⟩
              rw [hN1, hN2] at hne
              have HC := Lib.hid (fun (W : World) (hb : Below wr.heap.size wr W) => show Calls Try.prog 29 #[.agg #[.slice A 1 c, .slice D mm d]] W (EndPost W N1 N2 ((g : Int) + 1)) from hid ▸ hN1 ▸ hN2 ▸ lend_some x ws _ (B + 1) W (HL.out.below hb) HM.out.ok)
              have HNE := Lib.hid hne
              clear hid hN1 hN2 hne HL
              obtain ⟨k1, hk1⟩ : ∃ k, N1.length = k := ⟨_, rfl⟩
              obtain ⟨k2, hk2⟩ : ∃ k, N2.length = k := ⟨_, rfl⟩
              have HK1 := Lib.hid hk1
              have HK2 := Lib.hid hk2
              clear hk1 hk2
              have hg0 : ((g : Int) + 1 == 0) = false := by simp; omega
              go_wp2_with fail
              (with_reducible refine (HC.out _ ?b1).mono ?_)
              case b1 => (repeat' (first | (with_reducible exact Below.refl _ _) | (with_reducible assumption) | (with_reducible refine below_drewN ?_ _) | (with_reducible refine Below.drew ?_) | (with_reducible refine below_new ?_ (Nat.le_refl _) _) | (with_reducible refine Below.setCell ?_ ?_ _) | (with_reducible refine below_go ?_ (by assumption) (Nat.le_refl _)) | (simp; done) | (simp; omega) | omega))
              rintro e w2 ⟨v2, rfl, hl2, hb2⟩
              obtain ⟨a2, b2, rfl, ⟨A2, c2, rfl, x2⟩, ⟨D2, d2, rfl, y2⟩⟩ := hl2
              have hB2 := hb2.size
              have z0 : w2.cell? ⟨B, 0, none⟩ = some (.slice A 1 c) := (hb2.cell hlB).trans l0
              have z1 : w2.cell? ⟨B, 1, none⟩ = some (.slice D mm d) := (hb2.cell hlB).trans l1
              have zf : ∀ o, w2.frozen? ⟨B, o, none⟩ = false := fun o => (hb2.frozen hlB).trans (lf o)
              have HL2 := Lib.hid (show LineV w2 wr.heap.size N1 N2 (.agg #[.slice A2 k1 c2, .slice D2 k2 d2]) from ⟨_, _, rfl, ⟨A2, c2, by rw [HK1.out], x2⟩, ⟨D2, d2, by rw [HK2.out], y2⟩⟩)
              have HB2 := Lib.hid hb2
              have hlB2 : B < w2.heap.size := by omega
              have hnB : ¬ B = w2.heap.size := by omega
              rw [HK1.out, HK2.out]
              clear x2 y2 hb2 HC l0 l1 lf o0 o1
              go_wp2_with fail
              go_meet
              refine ⟨t, 1, N1, N2, A2, D2, k1, k2, c2, d2, by omega, rfl, Lib.hid ⟨_, _, [(g : Int) + 1], rfl, by omega, by omega, ⟨rfl, fun _ => ⟨_, 0, rfl, ?_, fun j u hu => ?_⟩⟩, fun k hk => ?_⟩, Lib.hid ⟨?_, ?_, ?_, ?_, ?_, ?_⟩, ?_⟩
              · simp
              · rcases j with _ | j
                · obtain rfl : u = .int .i64 ((g : Int) + 1) := by simpa [intsC] using hu.symm
                  go_simp
                · simp [intsC] at hu
              · obtain rfl : k = 0 := by omega
                simp
              · have := HB2.out
                (repeat' (first | (with_reducible exact Below.refl _ _) | (with_reducible assumption) | (with_reducible refine below_drewN ?_ _) | (with_reducible refine Below.drew ?_) | (with_reducible refine below_new ?_ (Nat.le_refl _) _) | (with_reducible refine Below.setCell ?_ ?_ _) | (with_reducible refine below_go ?_ (by assumption) (Nat.le_refl _)) | (simp; done) | (simp; omega) | omega))
              · simp; omega
              · go_simp
              · go_simp
              · intro o; go_simp
              · exact ((((HL2.out.store (p := ⟨B, 0, none⟩) hlB _).store (p := ⟨B, 1, none⟩) hlB _).below ((Below.refl _ _).alloc (Nat.le_refl _) _)).below ((Below.refl _ _).alloc (Nat.le_refl _) _)).base0 (by omega)
              · have := HNE.out
                rw [HK1.out, HK2.out] at this
                exact Lib.hid this
          · have k0' : (kd == 0) = false := by simpa using k0
            have k1' : (kd == 1) = false := by simpa using k1
            have hlc := clear_all HM.out
            have hsi := HM.out.ids
            obtain ⟨xs, hxs⟩ : ∃ xs, ns ++ ws = xs := ⟨_, rfl⟩
            rw [hxs] at hlc hsi
            have HC := Lib.hid (fun (W : World) (hb : Below wr.heap.size wr W) => show Calls Try.prog 30 #[.agg #[.slice A nn c, .slice D mm d]] W (ClearPost W xs) from hxs ▸ lclear_yes ns ws _ (B + 1) W (HL.out.below hb) HM.out.ok)
            have HCN := Lib.hid hlc
            have HSI := Lib.hid hsi
            clear hxs hlc hsi HL
            go_wp2_with fail
            (with_reducible refine (HC.out _ ?b1).mono ?_)
            case b1 => (repeat' (first | (with_reducible exact Below.refl _ _) | (with_reducible assumption) | (with_reducible refine below_drewN ?_ _) | (with_reducible refine Below.drew ?_) | (with_reducible refine below_new ?_ (Nat.le_refl _) _) | (with_reducible refine Below.setCell ?_ ?_ _) | (with_reducible refine below_go ?_ (by assumption) (Nat.le_refl _)) | (simp; done) | (simp; omega) | omega))
            rintro e w2 ⟨v2, i2, rfl, hl2, hi2, hb2⟩
            obtain ⟨a2, b2, rfl, ⟨A2, c2, rfl, x2⟩, ⟨D2, d2, rfl, y2⟩⟩ := hl2
            simp only [List.length_nil] at x2 y2 ⊢
            have hB2 := hb2.size
            have z0 : w2.cell? ⟨B, 0, none⟩ = some (.slice A nn c) := (hb2.cell hlB).trans l0
            have z1 : w2.cell? ⟨B, 1, none⟩ = some (.slice D mm d) := (hb2.cell hlB).trans l1
            have zf : ∀ o, w2.frozen? ⟨B, o, none⟩ = false := fun o => (hb2.frozen hlB).trans (lf o)
            have HL2 := Lib.hid (show LineV w2 wr.heap.size [] [] (.agg #[.slice A2 0 c2, .slice D2 0 d2]) from ⟨_, _, rfl, ⟨A2, c2, rfl, x2⟩, ⟨D2, d2, rfl, y2⟩⟩)
            have HI2 := Lib.hid hi2
            have HB2 := Lib.hid hb2
            have hlB2 : B < w2.heap.size := by omega
            clear x2 y2 hi2 hb2 HC l0 l1 lf o0 o1
            go_wp2_with fail
            go_meet
            refine ⟨t, xs.length, [], [], A2, D2, 0, 0, c2, d2, by omega, rfl, Lib.hid ?_, Lib.hid ⟨?_, ?_, ?_, ?_, ?_, ?_⟩, HCN⟩
            · exact OutV.of_ids ((HI2.out.store (p := ⟨B, 0, none⟩) hlB _).store (p := ⟨B, 1, none⟩) hlB _) HSI.out
            · have := HB2.out
              (repeat' (first | (with_reducible exact Below.refl _ _) | (with_reducible assumption) | (with_reducible refine below_drewN ?_ _) | (with_reducible refine Below.drew ?_) | (with_reducible refine below_new ?_ (Nat.le_refl _) _) | (with_reducible refine Below.setCell ?_ ?_ _) | (with_reducible refine below_go ?_ (by assumption) (Nat.le_refl _)) | (simp; done) | (simp; omega) | omega))
            · simp; omega
            · go_simp
            · go_simp
            · intro o; go_simp
            · exact ((HL2.out.store (p := ⟨B, 0, none⟩) hlB _).store (p := ⟨B, 1, none⟩) hlB _).base0 (by omega)
      case rest =>
        obtain ⟨t1, L, ns1, ws1, A1, D1, n1, m1, c1, d1, ht1, rfl, HO, HS1, HM1⟩ := hcut
        obtain ⟨I, cI, is, rfl, hI1, hI2, hI3, hI4⟩ := HO.out
        have HI3 := Lib.hid hI3
        have HI4 := Lib.hid hI4
        have hsum := HM1.out.sum
        clear hI3 hI4 HO HM HS HL l0 l1 lf o0 o1
        go_wp2_with fail
        go_loopw [13, 4] (fun kv gv wx => ∃ k G : Nat, k ≤ L ∧ kv = .int .i64 k ∧ gv = .int .i64 G ∧ G = g + k ∧ wx = wc) (fun kv _ _ => L - (intOf kv).toNat)
        case atStart => exact ⟨0, g, by omega, rfl, rfl, rfl, rfl⟩
        case round =>
          obtain ⟨k, G, hk, rfl, rfl, hG, rfl⟩ := hrel
          have k0 : (0 : Int) ≤ (k : Int) := by omega
          by_cases hkL : k < L
          · have k1 : (k : Int) < (L : Int) := by omega
            obtain ⟨bI, oI, x, rfl, hbI, hx, hcell⟩ := HI3.out.num k hkL
            have hxk := HI4.out k hkL
            rw [hx] at hxk
            have hx1 : x = (G : Int) + 1 := by have := Option.some.inj hxk; omega
            subst hx1
            have hwg : IntKind.i64.wrap ((G : Int) + 1) = (G : Int) + 1 := IntWalk.i64_in _ (by omega)
            clear hx hxk
            go_wp2_with fail
            go_roundw
            case rel => exact ⟨k + 1, G + 1, by omega, by go_num, by go_num, by omega, trivial⟩
            case measure => simp [intOf]; omega
          · obtain rfl : k = L := by omega
            obtain ⟨tt, htt⟩ : ∃ x, t1 = x := ⟨_, rfl⟩
            subst htt
            have l0 := HS1.out.c0
            have l1 := HS1.out.c1
            have hlB1 := HS1.out.lt
            have HR1 := Lib.hid (fun (W : World) (hb : Below wr.heap.size wr W) => show Calls Try.prog 31 #[.agg #[.slice A1 n1 c1, .slice D1 m1 d1]] W (fun e w' => e = .returned (.bool true) ∧ Below W.heap.size W w') from lright_at ns1 ws1 _ (B + 1) true W (HS1.out.line.below hb) HM1.out.ok)
            have hs1 : IntKind.i64.wrap ((G : Int) + (n1 : Int)) = (G : Int) + (n1 : Int) := IntWalk.i64_in _ (by omega)
            have hs2 : IntKind.i64.wrap ((G : Int) + (n1 : Int) + (m1 : Int)) = (G : Int) + (n1 : Int) + (m1 : Int) := IntWalk.i64_in _ (by omega)
            have hs3 : (G : Int) + (n1 : Int) + (m1 : Int) = (t1 : Int) := by omega
            go_wp2_with fail
            (with_reducible refine (HR1.out _ ?b1).mono ?_)
            case b1 => (repeat' (first | (with_reducible exact Below.refl _ _) | (with_reducible assumption) | (with_reducible refine below_drewN ?_ _) | (with_reducible refine Below.drew ?_) | (with_reducible refine below_new ?_ (Nat.le_refl _) _) | (with_reducible refine Below.setCell ?_ ?_ _) | (with_reducible refine below_go ?_ (by assumption) (Nat.le_refl _)) | (simp; done) | (simp; omega) | omega))
            rintro e w3 ⟨rfl, hb3⟩
            have z0 : w3.cell? ⟨B, 0, none⟩ = some (.slice A1 n1 c1) := (hb3.cell hlB1).trans l0
            have z1 : w3.cell? ⟨B, 1, none⟩ = some (.slice D1 m1 d1) := (hb3.cell hlB1).trans l1
            go_wp2_with fail
            go_roundw
            case rel => exact ⟨g + k, t1, i + 1, ns1, ws1, A1, D1, n1, m1, c1, d1, by omega, by omega, by omega, by go_num, rfl, by go_num, Lib.hid (HS1.out.below (by (repeat' (first | (with_reducible exact Below.refl _ _) | (with_reducible assumption) | (with_reducible refine below_drewN ?_ _) | (with_reducible refine Below.drew ?_) | (with_reducible refine below_new ?_ (Nat.le_refl _) _) | (with_reducible refine Below.setCell ?_ ?_ _) | (with_reducible refine below_go ?_ (by assumption) (Nat.le_refl _)) | (simp; done) | (simp; omega) | omega)))), HM1⟩
            case measure => simp [intOf]; omega
    · rcases Nat.lt_or_ge i n with h1 | h1
      · have h2 : i = 200 := by omega
        subst h2
        have i1 : ((200 : Nat) : Int) < (n : Int) := by omega
        go_wp2
        go_ret
        exact ⟨rfl, hbr⟩
      · obtain rfl : i = n := by omega
        go_wp2
        go_ret
        exact ⟨rfl, hbr⟩

end Go.Proofs.Ytddakmlnkffgiaa
