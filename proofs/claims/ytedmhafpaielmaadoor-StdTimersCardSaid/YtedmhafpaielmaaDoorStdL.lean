/- Layer 16: a TON is true just when its input was true as often as it shall; a TP is true for as many calls as it shall: the walk. PRINTED by wip/tool/mktimers.py -/
import Derived.Test.YtedmhafpaielmaaDoorStdK
namespace Go.Proofs.YtedmhafpaielmaaDoor
open Go.RowKit
set_option linter.unusedVariables false
set_option linter.unusedSimpArgs false
attribute [local go_sem] ite_max ite_min vite_max vite_min ext_cell ext_frozen extS_cell extS_frozen

theorem upI_cases (e p : Int) : (e < p ∧ upI e p = e + 1) ∨ (¬ e < p ∧ upI e p = e) := by
  by_cases h : e < p
  · exact .inl ⟨h, if_pos h⟩
  · exact .inr ⟨h, if_neg h⟩
theorem tonQ_is (e p : Int) : tonQ e p = oneB (decide (p ≤ upI e p)) := rfl
theorem tpQ_is (e p : Int) : tpQ e p = oneB (decide (e < p)) := rfl

set_option maxRecDepth 100000 in
set_option maxHeartbeats 8000000 in
theorem timers_any (pt : Int) (ad : Option Addr) (cap n : Nat) (zs : List Bool) (w : World) (hpt : 0 ≤ pt ∧ pt ≤ 255) (htab : Blanks w) (hlen : zs.length = n) (hn : n ≤ cap) (hcap : cap ≤ 9223372036854775807)
    (hc : n = 0 ∨ ∃ b off, ad = some ⟨b, off, none⟩ ∧ b < w.heap.size ∧ ∀ (i : Nat) z, zs[i]? = some z → w.cell? ⟨b, off + i, none⟩ = some (.bool z)) :
    Calls Tryd.prog 3 #[.int .u8 pt, .slice ad n cap] w fun e w' => e = .returned (.bool true) ∧ Below w.heap.size w w' := by
  have HT := Lib.hid htab
  have HC := Lib.hid hc
  have HLEN := Lib.hid hlen
  have hwp : IntKind.i64.wrap pt = pt := IntWalk.i64_in _ (by omega)
  have HPT : Hid (0 ≤ pt ∧ pt ≤ 255) := Lib.hid hpt
  clear htab hc hlen
  go_enter Tryd.func3, Tryd.ntmps3
  go_wp2_with fail
  refine (awake16 w HT.out).mono ?_
  rintro e w1 ⟨rfl, hb1⟩
  go_upto_region 7 with (fail)
  refine wp_name fun W hW => ?_
  have hR1 : Hid (Row W w1.heap.size [0, pt, 0, 0]) := Lib.hid (by rw [hW.out]; exact row4 (by first | (simp; done) | (simp; omega)) (fun o => by go_simp) (by go_simp) (by go_simp) (by go_simp) (by go_simp))
  have hR2 : Hid (Row W (w1.heap.size + 1) [0, pt, 0, 0, 0, 0]) := Lib.hid (by rw [hW.out]; exact row6 (by first | (simp; done) | (simp; omega)) (fun o => by go_simp) (by go_simp) (by go_simp) (by go_simp) (by go_simp) (by go_simp) (by go_simp))
  have HB : Hid (Below w.heap.size w W) := Lib.hid (by rw [hW.out]; (repeat' (first | (with_reducible exact Below.refl _ _) | (with_reducible assumption) | (with_reducible refine below_drewN ?_ _) | (with_reducible refine Below.drew ?_) | (with_reducible refine below_new ?_ (Nat.le_refl _) _) | (with_reducible refine Below.setCell ?_ ?_ _) | (with_reducible refine below_go ?_ (by assumption) (Nat.le_refl _)) | (simp; done) | (simp; omega) | omega)))
  have hz1 := hb1.size
  clear hW hb1
  go_loopw [5, 6, 7, 8, 9, 10, 11] (fun v1 v2 vr vl vw vb vi wr => ∃ (k g1 c1 g2 c2 : Nat) (x1 x2 q1 q2 e1 e2 m t : Int) (wa bu : Bool), k ≤ n ∧ k ≤ 300 ∧ v1 = .slice (some ⟨g1, 0, none⟩) 4 c1 ∧ v2 = .slice (some ⟨g2, 0, none⟩) 6 c2 ∧ vr = .int .i64 m ∧ vl = .int .i64 t ∧ vw = .bool wa ∧ vb = .bool bu ∧ vi = .int .i64 k ∧ (0 ≤ m ∧ m ≤ k) ∧ (e1 = m ∧ m ≤ pt ∨ e1 = pt ∧ pt ≤ m) ∧ (0 ≤ e2 ∧ e2 ≤ 255) ∧
    (bu = true → t = pt - e2 ∧ 0 ≤ t) ∧ (bu = false → t = 0 ∧ q2 = 0) ∧ Hid (Row wr g1 [x1, pt, q1, e1]) ∧ Hid (Row wr g2 [x2, pt, q2, e2, oneB wa, oneB bu]) ∧ g1 ≠ g2 ∧ (w.heap.size ≤ g1 ∧ w.heap.size ≤ g2) ∧ Hid (Below w.heap.size w wr)) (fun _ _ _ _ _ _ i _ => n - (intOf i).toNat)
  case atStart => exact ⟨0, _, 4, _, 6, 0, 0, 0, 0, 0, 0, 0, 0, false, false, by omega, by omega, rfl, rfl, rfl, rfl, rfl, rfl, rfl, by omega, by omega, by omega, by simp, by simp, hR1, hR2, by omega, by omega, HB⟩
  case round =>
    clear hR1 hR2 HB
    obtain ⟨k, g1, c1, g2, c2, x1, x2, q1, q2, e1, e2, m, t, wa, bu, hk, hk3, rfl, rfl, rfl, rfl, rfl, rfl, rfl, hm, he1, he2, hbu, hnb, HR1, HR2, hne, ⟨hg1, hg2⟩, HB⟩ := hrel
    by_cases hlt : k < n
    · by_cases h300 : k < 300
      · obtain ⟨z, hz⟩ : ∃ z, zs[k]? = some z := ⟨zs[k]'(by rw [HLEN.out]; exact hlt), List.getElem?_eq_getElem _⟩
        obtain ⟨bb, off, rfl, hbl, hcell⟩ : ∃ b off, ad = some ⟨b, off, none⟩ ∧ b < w.heap.size ∧ ∀ (i : Nat) z, zs[i]? = some z → w.cell? ⟨b, off + i, none⟩ = some (.bool z) := by
          rcases HC.out with h | h
          · omega
          · exact h
        have HZ := Lib.hid (hcell k z hz)
        have cz : wr.cell? ⟨bb, off + k, none⟩ = some (.bool z) := (HB.out.cell (p := ⟨bb, off + k, none⟩) hbl).trans HZ.out
        have hzs := HB.out.size
        have hbr : bb < wr.heap.size := by omega
        have hk0 : (0 : Int) ≤ (k : Int) ∧ (k : Int) < (n : Int) ∧ (k : Int) < 300 := by omega
        clear hcell hz
        have hwm : IntKind.i64.wrap (m + 1) = m + 1 := IntWalk.i64_in _ (by omega)
        have c10 := HR1.out.cell 0 _ rfl
        have c20 := HR2.out.cell 0 _ rfl
        have f1 := HR1.out.free
        have f2 := HR2.out.free
        have l1 := HR1.out.lt
        have l2 := HR2.out.lt
        have n12 : ¬ g1 = g2 := hne
        have n21 : ¬ g2 = g1 := fun h => hne h.symm
        have hbg : ¬ bb = g1 := by omega
        have hbg2 : ¬ bb = g2 := by omega
        cases z <;> cases wa <;> cases bu
        · have hT2 : t = 0 := by simp at hbu hnb; omega
          obtain rfl : q2 = 0 := by simp at hnb; omega
          have HT2 := Lib.hid hT2
          clear hT2 hbu hnb
          have hpt' := HPT.out
          go_upto_region 17 with (fail)
          refine wp_name fun W17 hW17 => ?_
          have HA : Hid (Row W17 g1 [0, pt, q1, e1]) := Lib.hid (by rw [hW17.out]; exact (HR1.out.set 0 0).other n21 _ _)
          have HD : Hid (Row W17 g2 [0, pt, 0, e2, oneB false, oneB false]) := Lib.hid (by rw [hW17.out]; exact (HR2.out.other n12 _ _).set 0 0)
          have HBA : Hid (Below w.heap.size w W17) := Lib.hid (by rw [hW17.out]; have := HB.out; (repeat' (first | (with_reducible exact Below.refl _ _) | (with_reducible assumption) | (with_reducible refine below_drewN ?_ _) | (with_reducible refine Below.drew ?_) | (with_reducible refine below_new ?_ (Nat.le_refl _) _) | (with_reducible refine Below.setCell ?_ ?_ _) | (with_reducible refine below_go ?_ (by assumption) (Nat.le_refl _)) | (simp; done) | (simp; omega) | omega)))
          clear hW17 HR1 HR2 HB c10 c20 f1 f2 l1 l2 cz hbr hwm
          go_wp2_with fail
          refine (ton_step_off pt q1 e1 g1 c1 W17 HA.out (HT.out.on HBA.out)).mono ?_
          rintro e w3 ⟨g3, c3, rfl, hg3, hr3, hb3⟩
          have HA3 : Hid (Row w3 g3 [0, pt, 0, 0]) := Lib.hid hr3
          have HD3 := Lib.hid (HD.out.below hb3)
          have HB3 := Lib.hid (HBA.out.trans (hb3.mono HBA.out.size))
          have hz17 := HBA.out.size
          clear hr3 HA HD HBA hb3
          go_wp2_with fail
          refine (step_tp 0 pt 0 e2 (oneB false) (oneB false) _ (fun g k w h => tp_rest0 0 pt 0 e2 g 6 k w (by omega) h (by omega) (by omega)) g2 c2 w3 HD3.out (HT.out.on HB3.out)).mono ?_
          rintro e w4 ⟨g4, c4, rfl, hg4, hr4, hb4⟩
          have HA4 := Lib.hid (HA3.out.below hb4)
          have HD4 : Hid (Row w4 g4 [0, pt, 0, e2, 0, 0]) := Lib.hid hr4
          have HB4 := Lib.hid (HB3.out.trans (hb4.mono HB3.out.size))
          have hl3 := HA3.out.lt
          have hz3 := HB3.out.size
          have hz4 := HB4.out.size
          clear hr4 HA3 HD3 HB3 hb4
          have cz : w4.cell? ⟨bb, off + k, none⟩ = some (.bool false) := (HB4.out.cell (p := ⟨bb, off + k, none⟩) hbl).trans HZ.out
          have hbr : bb < w4.heap.size := by omega
          have hg34 : g3 ≠ g4 := by omega
          have hgg : w.heap.size ≤ g3 ∧ w.heap.size ≤ g4 := by omega
          obtain ⟨ee, hee⟩ : ∃ ee, upI e1 pt = ee := ⟨_, rfl⟩
          obtain ⟨e3, he3⟩ : ∃ e3, upI e2 pt = e3 := ⟨_, rfl⟩
          have hu1 := upI_cases e1 pt
          have hu2 := upI_cases e2 pt
          rw [hee] at hu1
          rw [he3] at hu2
          have HA5 : Hid (Row w4 g3 [0, pt, 0, 0]) := Lib.hid (by have := HA4.out; exact this)
          have HD5 : Hid (Row w4 g4 [0, pt, 0, e2, 0, 0]) := Lib.hid (by have := HD4.out; exact this)
          have d2 : w4.cell? ⟨g3, 2, none⟩ = some (.int .i64 0) := HA5.out.cell 2 _ rfl
          have d3 : w4.cell? ⟨g4, 2, none⟩ = some (.int .i64 0) := HD5.out.cell 2 _ rfl
          have ll1 := HA5.out.lt
          have ll2 := HD5.out.lt
          have hT3 := HT2.out
          obtain rfl : t = 0 := hT3
          clear HA4 HD4
          try clear hT3
          go_upto_region 18 with (fail)
          refine wp_region_ext (by kernel_rfl) (by kernel_rfl) ?_
          repeat (go_big_quiet_step (fail))
          refine wpQuiet_nil ?_
          intro v8 hv8
          replace hv8 := ext_below hv8
          have HA8 := Lib.hid (HA5.out.below hv8)
          have HD8 := Lib.hid (HD5.out.below hv8)
          have HB8 := Lib.hid (HB4.out.trans (hv8.mono HB4.out.size))
          have cz8 := (hv8.cell (p := ⟨bb, off + k, none⟩) hbr).trans cz
          clear HA5 HD5 HB4 d2 d3 cz hv8
          go_wp2
          go_roundw
          case rel => exact ⟨k + 1, g3, c3, g4, c4, 0, 0, 0, 0, 0, e2, 0, 0, false, false, by omega, by omega, rfl, rfl, by first | rfl | go_num, by first | rfl | go_num, rfl, rfl, by go_num, by omega, by omega, by omega, by have := HT2.out; simp <;> omega, by have := HT2.out; simp <;> omega, HA8, HD8, hg34, hgg, HB8⟩
          case measure => simp [intOf]; omega
        · have hT2 : t = pt - e2 ∧ 0 ≤ t := by simp at hbu hnb; omega
          skip
          have HT2 := Lib.hid hT2
          clear hT2 hbu hnb
          have hpt' := HPT.out
          go_upto_region 17 with (fail)
          refine wp_name fun W17 hW17 => ?_
          have HA : Hid (Row W17 g1 [0, pt, q1, e1]) := Lib.hid (by rw [hW17.out]; exact (HR1.out.set 0 0).other n21 _ _)
          have HD : Hid (Row W17 g2 [0, pt, q2, e2, oneB false, oneB true]) := Lib.hid (by rw [hW17.out]; exact (HR2.out.other n12 _ _).set 0 0)
          have HBA : Hid (Below w.heap.size w W17) := Lib.hid (by rw [hW17.out]; have := HB.out; (repeat' (first | (with_reducible exact Below.refl _ _) | (with_reducible assumption) | (with_reducible refine below_drewN ?_ _) | (with_reducible refine Below.drew ?_) | (with_reducible refine below_new ?_ (Nat.le_refl _) _) | (with_reducible refine Below.setCell ?_ ?_ _) | (with_reducible refine below_go ?_ (by assumption) (Nat.le_refl _)) | (simp; done) | (simp; omega) | omega)))
          clear hW17 HR1 HR2 HB c10 c20 f1 f2 l1 l2 cz hbr hwm
          go_wp2_with fail
          refine (ton_step_off pt q1 e1 g1 c1 W17 HA.out (HT.out.on HBA.out)).mono ?_
          rintro e w3 ⟨g3, c3, rfl, hg3, hr3, hb3⟩
          have HA3 : Hid (Row w3 g3 [0, pt, 0, 0]) := Lib.hid hr3
          have HD3 := Lib.hid (HD.out.below hb3)
          have HB3 := Lib.hid (HBA.out.trans (hb3.mono HBA.out.size))
          have hz17 := HBA.out.size
          clear hr3 HA HD HBA hb3
          go_wp2_with fail
          refine (step_tp 0 pt q2 e2 (oneB false) (oneB true) _ (fun g k w h => tp_run0 0 1 pt q2 e2 g 6 k w (by decide) (by omega) h (by omega) (by omega)) g2 c2 w3 HD3.out (HT.out.on HB3.out)).mono ?_
          rintro e w4 ⟨g4, c4, rfl, hg4, hr4, hb4⟩
          have HA4 := Lib.hid (HA3.out.below hb4)
          have HD4 : Hid (Row w4 g4 [0, pt, tpQ e2 pt, upI e2 pt, 0, tpQ e2 pt]) := Lib.hid hr4
          have HB4 := Lib.hid (HB3.out.trans (hb4.mono HB3.out.size))
          have hl3 := HA3.out.lt
          have hz3 := HB3.out.size
          have hz4 := HB4.out.size
          clear hr4 HA3 HD3 HB3 hb4
          have cz : w4.cell? ⟨bb, off + k, none⟩ = some (.bool false) := (HB4.out.cell (p := ⟨bb, off + k, none⟩) hbl).trans HZ.out
          have hbr : bb < w4.heap.size := by omega
          have hg34 : g3 ≠ g4 := by omega
          have hgg : w.heap.size ≤ g3 ∧ w.heap.size ≤ g4 := by omega
          obtain ⟨ee, hee⟩ : ∃ ee, upI e1 pt = ee := ⟨_, rfl⟩
          obtain ⟨e3, he3⟩ : ∃ e3, upI e2 pt = e3 := ⟨_, rfl⟩
          have hu1 := upI_cases e1 pt
          have hu2 := upI_cases e2 pt
          rw [hee] at hu1
          rw [he3] at hu2
          by_cases hlf : e2 < pt
          · have hq2 : tpQ e2 pt = 1 := by rw [tpQ_is, show decide (e2 < pt) = true from by simp; omega]; rfl
            have HA5 : Hid (Row w4 g3 [0, pt, 0, 0]) := Lib.hid (by have := HA4.out; exact this)
            have HD5 : Hid (Row w4 g4 [0, pt, 1, e3, 0, 1]) := Lib.hid (by have := HD4.out; rw [hq2, he3] at this; exact this)
            have d2 : w4.cell? ⟨g3, 2, none⟩ = some (.int .i64 0) := HA5.out.cell 2 _ rfl
            have d3 : w4.cell? ⟨g4, 2, none⟩ = some (.int .i64 1) := HD5.out.cell 2 _ rfl
            have ll1 := HA5.out.lt
            have ll2 := HD5.out.lt
            have hT3 := HT2.out
            have hpos : 0 < t := by omega
            have hnz : ¬ t = 0 := by omega
            have hwt : IntKind.i64.wrap (t - 1) = t - 1 := IntWalk.i64_in _ (by omega)
            have hmx : max (t - 1) 0 = t - 1 := by omega
            clear HA4 HD4
            try clear hT3
            go_upto_region 18 with (fail)
            refine wp_region_ext (by kernel_rfl) (by kernel_rfl) ?_
            repeat (go_big_quiet_step (fail))
            refine wpQuiet_nil ?_
            intro v8 hv8
            replace hv8 := ext_below hv8
            have HA8 := Lib.hid (HA5.out.below hv8)
            have HD8 := Lib.hid (HD5.out.below hv8)
            have HB8 := Lib.hid (HB4.out.trans (hv8.mono HB4.out.size))
            have cz8 := (hv8.cell (p := ⟨bb, off + k, none⟩) hbr).trans cz
            clear HA5 HD5 HB4 d2 d3 cz hv8
            go_wp2
            go_roundw
            case rel => exact ⟨k + 1, g3, c3, g4, c4, 0, 0, 0, 1, 0, e3, 0, t - 1, false, true, by omega, by omega, rfl, rfl, by first | rfl | go_num, by first | rfl | go_num, rfl, rfl, by go_num, by omega, by omega, by omega, by have := HT2.out; simp <;> omega, by have := HT2.out; simp <;> omega, HA8, HD8, hg34, hgg, HB8⟩
            case measure => simp [intOf]; omega
          · have hq2 : tpQ e2 pt = 0 := by rw [tpQ_is, show decide (e2 < pt) = false from by simp; omega]; rfl
            have HA5 : Hid (Row w4 g3 [0, pt, 0, 0]) := Lib.hid (by have := HA4.out; exact this)
            have HD5 : Hid (Row w4 g4 [0, pt, 0, e3, 0, 0]) := Lib.hid (by have := HD4.out; rw [hq2, he3] at this; exact this)
            have d2 : w4.cell? ⟨g3, 2, none⟩ = some (.int .i64 0) := HA5.out.cell 2 _ rfl
            have d3 : w4.cell? ⟨g4, 2, none⟩ = some (.int .i64 0) := HD5.out.cell 2 _ rfl
            have ll1 := HA5.out.lt
            have ll2 := HD5.out.lt
            have hT3 := HT2.out
            obtain rfl : t = 0 := by omega
            clear HA4 HD4
            try clear hT3
            go_upto_region 18 with (fail)
            refine wp_region_ext (by kernel_rfl) (by kernel_rfl) ?_
            repeat (go_big_quiet_step (fail))
            refine wpQuiet_nil ?_
            intro v8 hv8
            replace hv8 := ext_below hv8
            have HA8 := Lib.hid (HA5.out.below hv8)
            have HD8 := Lib.hid (HD5.out.below hv8)
            have HB8 := Lib.hid (HB4.out.trans (hv8.mono HB4.out.size))
            have cz8 := (hv8.cell (p := ⟨bb, off + k, none⟩) hbr).trans cz
            clear HA5 HD5 HB4 d2 d3 cz hv8
            go_wp2
            go_roundw
            case rel => exact ⟨k + 1, g3, c3, g4, c4, 0, 0, 0, 0, 0, e3, 0, 0, false, false, by omega, by omega, rfl, rfl, by first | rfl | go_num, by first | rfl | go_num, rfl, rfl, by go_num, by omega, by omega, by omega, by have := HT2.out; simp <;> omega, by have := HT2.out; simp <;> omega, HA8, HD8, hg34, hgg, HB8⟩
            case measure => simp [intOf]; omega
        · have hT2 : t = 0 := by simp at hbu hnb; omega
          obtain rfl : q2 = 0 := by simp at hnb; omega
          have HT2 := Lib.hid hT2
          clear hT2 hbu hnb
          have hpt' := HPT.out
          go_upto_region 17 with (fail)
          refine wp_name fun W17 hW17 => ?_
          have HA : Hid (Row W17 g1 [0, pt, q1, e1]) := Lib.hid (by rw [hW17.out]; exact (HR1.out.set 0 0).other n21 _ _)
          have HD : Hid (Row W17 g2 [0, pt, 0, e2, oneB true, oneB false]) := Lib.hid (by rw [hW17.out]; exact (HR2.out.other n12 _ _).set 0 0)
          have HBA : Hid (Below w.heap.size w W17) := Lib.hid (by rw [hW17.out]; have := HB.out; (repeat' (first | (with_reducible exact Below.refl _ _) | (with_reducible assumption) | (with_reducible refine below_drewN ?_ _) | (with_reducible refine Below.drew ?_) | (with_reducible refine below_new ?_ (Nat.le_refl _) _) | (with_reducible refine Below.setCell ?_ ?_ _) | (with_reducible refine below_go ?_ (by assumption) (Nat.le_refl _)) | (simp; done) | (simp; omega) | omega)))
          clear hW17 HR1 HR2 HB c10 c20 f1 f2 l1 l2 cz hbr hwm
          go_wp2_with fail
          refine (ton_step_off pt q1 e1 g1 c1 W17 HA.out (HT.out.on HBA.out)).mono ?_
          rintro e w3 ⟨g3, c3, rfl, hg3, hr3, hb3⟩
          have HA3 : Hid (Row w3 g3 [0, pt, 0, 0]) := Lib.hid hr3
          have HD3 := Lib.hid (HD.out.below hb3)
          have HB3 := Lib.hid (HBA.out.trans (hb3.mono HBA.out.size))
          have hz17 := HBA.out.size
          clear hr3 HA HD HBA hb3
          go_wp2_with fail
          refine (step_tp 0 pt 0 e2 (oneB true) (oneB false) _ (fun g k w h => tp_rest0 1 pt 0 e2 g 6 k w (by omega) h (by omega) (by omega)) g2 c2 w3 HD3.out (HT.out.on HB3.out)).mono ?_
          rintro e w4 ⟨g4, c4, rfl, hg4, hr4, hb4⟩
          have HA4 := Lib.hid (HA3.out.below hb4)
          have HD4 : Hid (Row w4 g4 [0, pt, 0, e2, 0, 0]) := Lib.hid hr4
          have HB4 := Lib.hid (HB3.out.trans (hb4.mono HB3.out.size))
          have hl3 := HA3.out.lt
          have hz3 := HB3.out.size
          have hz4 := HB4.out.size
          clear hr4 HA3 HD3 HB3 hb4
          have cz : w4.cell? ⟨bb, off + k, none⟩ = some (.bool false) := (HB4.out.cell (p := ⟨bb, off + k, none⟩) hbl).trans HZ.out
          have hbr : bb < w4.heap.size := by omega
          have hg34 : g3 ≠ g4 := by omega
          have hgg : w.heap.size ≤ g3 ∧ w.heap.size ≤ g4 := by omega
          obtain ⟨ee, hee⟩ : ∃ ee, upI e1 pt = ee := ⟨_, rfl⟩
          obtain ⟨e3, he3⟩ : ∃ e3, upI e2 pt = e3 := ⟨_, rfl⟩
          have hu1 := upI_cases e1 pt
          have hu2 := upI_cases e2 pt
          rw [hee] at hu1
          rw [he3] at hu2
          have HA5 : Hid (Row w4 g3 [0, pt, 0, 0]) := Lib.hid (by have := HA4.out; exact this)
          have HD5 : Hid (Row w4 g4 [0, pt, 0, e2, 0, 0]) := Lib.hid (by have := HD4.out; exact this)
          have d2 : w4.cell? ⟨g3, 2, none⟩ = some (.int .i64 0) := HA5.out.cell 2 _ rfl
          have d3 : w4.cell? ⟨g4, 2, none⟩ = some (.int .i64 0) := HD5.out.cell 2 _ rfl
          have ll1 := HA5.out.lt
          have ll2 := HD5.out.lt
          have hT3 := HT2.out
          obtain rfl : t = 0 := hT3
          clear HA4 HD4
          try clear hT3
          go_upto_region 18 with (fail)
          refine wp_region_ext (by kernel_rfl) (by kernel_rfl) ?_
          repeat (go_big_quiet_step (fail))
          refine wpQuiet_nil ?_
          intro v8 hv8
          replace hv8 := ext_below hv8
          have HA8 := Lib.hid (HA5.out.below hv8)
          have HD8 := Lib.hid (HD5.out.below hv8)
          have HB8 := Lib.hid (HB4.out.trans (hv8.mono HB4.out.size))
          have cz8 := (hv8.cell (p := ⟨bb, off + k, none⟩) hbr).trans cz
          clear HA5 HD5 HB4 d2 d3 cz hv8
          go_wp2
          go_roundw
          case rel => exact ⟨k + 1, g3, c3, g4, c4, 0, 0, 0, 0, 0, e2, 0, 0, false, false, by omega, by omega, rfl, rfl, by first | rfl | go_num, by first | rfl | go_num, rfl, rfl, by go_num, by omega, by omega, by omega, by have := HT2.out; simp <;> omega, by have := HT2.out; simp <;> omega, HA8, HD8, hg34, hgg, HB8⟩
          case measure => simp [intOf]; omega
        · have hT2 : t = pt - e2 ∧ 0 ≤ t := by simp at hbu hnb; omega
          skip
          have HT2 := Lib.hid hT2
          clear hT2 hbu hnb
          have hpt' := HPT.out
          go_upto_region 17 with (fail)
          refine wp_name fun W17 hW17 => ?_
          have HA : Hid (Row W17 g1 [0, pt, q1, e1]) := Lib.hid (by rw [hW17.out]; exact (HR1.out.set 0 0).other n21 _ _)
          have HD : Hid (Row W17 g2 [0, pt, q2, e2, oneB true, oneB true]) := Lib.hid (by rw [hW17.out]; exact (HR2.out.other n12 _ _).set 0 0)
          have HBA : Hid (Below w.heap.size w W17) := Lib.hid (by rw [hW17.out]; have := HB.out; (repeat' (first | (with_reducible exact Below.refl _ _) | (with_reducible assumption) | (with_reducible refine below_drewN ?_ _) | (with_reducible refine Below.drew ?_) | (with_reducible refine below_new ?_ (Nat.le_refl _) _) | (with_reducible refine Below.setCell ?_ ?_ _) | (with_reducible refine below_go ?_ (by assumption) (Nat.le_refl _)) | (simp; done) | (simp; omega) | omega)))
          clear hW17 HR1 HR2 HB c10 c20 f1 f2 l1 l2 cz hbr hwm
          go_wp2_with fail
          refine (ton_step_off pt q1 e1 g1 c1 W17 HA.out (HT.out.on HBA.out)).mono ?_
          rintro e w3 ⟨g3, c3, rfl, hg3, hr3, hb3⟩
          have HA3 : Hid (Row w3 g3 [0, pt, 0, 0]) := Lib.hid hr3
          have HD3 := Lib.hid (HD.out.below hb3)
          have HB3 := Lib.hid (HBA.out.trans (hb3.mono HBA.out.size))
          have hz17 := HBA.out.size
          clear hr3 HA HD HBA hb3
          go_wp2_with fail
          refine (step_tp 0 pt q2 e2 (oneB true) (oneB true) _ (fun g k w h => tp_run0 1 1 pt q2 e2 g 6 k w (by decide) (by omega) h (by omega) (by omega)) g2 c2 w3 HD3.out (HT.out.on HB3.out)).mono ?_
          rintro e w4 ⟨g4, c4, rfl, hg4, hr4, hb4⟩
          have HA4 := Lib.hid (HA3.out.below hb4)
          have HD4 : Hid (Row w4 g4 [0, pt, tpQ e2 pt, upI e2 pt, 0, tpQ e2 pt]) := Lib.hid hr4
          have HB4 := Lib.hid (HB3.out.trans (hb4.mono HB3.out.size))
          have hl3 := HA3.out.lt
          have hz3 := HB3.out.size
          have hz4 := HB4.out.size
          clear hr4 HA3 HD3 HB3 hb4
          have cz : w4.cell? ⟨bb, off + k, none⟩ = some (.bool false) := (HB4.out.cell (p := ⟨bb, off + k, none⟩) hbl).trans HZ.out
          have hbr : bb < w4.heap.size := by omega
          have hg34 : g3 ≠ g4 := by omega
          have hgg : w.heap.size ≤ g3 ∧ w.heap.size ≤ g4 := by omega
          obtain ⟨ee, hee⟩ : ∃ ee, upI e1 pt = ee := ⟨_, rfl⟩
          obtain ⟨e3, he3⟩ : ∃ e3, upI e2 pt = e3 := ⟨_, rfl⟩
          have hu1 := upI_cases e1 pt
          have hu2 := upI_cases e2 pt
          rw [hee] at hu1
          rw [he3] at hu2
          by_cases hlf : e2 < pt
          · have hq2 : tpQ e2 pt = 1 := by rw [tpQ_is, show decide (e2 < pt) = true from by simp; omega]; rfl
            have HA5 : Hid (Row w4 g3 [0, pt, 0, 0]) := Lib.hid (by have := HA4.out; exact this)
            have HD5 : Hid (Row w4 g4 [0, pt, 1, e3, 0, 1]) := Lib.hid (by have := HD4.out; rw [hq2, he3] at this; exact this)
            have d2 : w4.cell? ⟨g3, 2, none⟩ = some (.int .i64 0) := HA5.out.cell 2 _ rfl
            have d3 : w4.cell? ⟨g4, 2, none⟩ = some (.int .i64 1) := HD5.out.cell 2 _ rfl
            have ll1 := HA5.out.lt
            have ll2 := HD5.out.lt
            have hT3 := HT2.out
            have hpos : 0 < t := by omega
            have hnz : ¬ t = 0 := by omega
            have hwt : IntKind.i64.wrap (t - 1) = t - 1 := IntWalk.i64_in _ (by omega)
            have hmx : max (t - 1) 0 = t - 1 := by omega
            clear HA4 HD4
            try clear hT3
            go_upto_region 18 with (fail)
            refine wp_region_ext (by kernel_rfl) (by kernel_rfl) ?_
            repeat (go_big_quiet_step (fail))
            refine wpQuiet_nil ?_
            intro v8 hv8
            replace hv8 := ext_below hv8
            have HA8 := Lib.hid (HA5.out.below hv8)
            have HD8 := Lib.hid (HD5.out.below hv8)
            have HB8 := Lib.hid (HB4.out.trans (hv8.mono HB4.out.size))
            have cz8 := (hv8.cell (p := ⟨bb, off + k, none⟩) hbr).trans cz
            clear HA5 HD5 HB4 d2 d3 cz hv8
            go_wp2
            go_roundw
            case rel => exact ⟨k + 1, g3, c3, g4, c4, 0, 0, 0, 1, 0, e3, 0, t - 1, false, true, by omega, by omega, rfl, rfl, by first | rfl | go_num, by first | rfl | go_num, rfl, rfl, by go_num, by omega, by omega, by omega, by have := HT2.out; simp <;> omega, by have := HT2.out; simp <;> omega, HA8, HD8, hg34, hgg, HB8⟩
            case measure => simp [intOf]; omega
          · have hq2 : tpQ e2 pt = 0 := by rw [tpQ_is, show decide (e2 < pt) = false from by simp; omega]; rfl
            have HA5 : Hid (Row w4 g3 [0, pt, 0, 0]) := Lib.hid (by have := HA4.out; exact this)
            have HD5 : Hid (Row w4 g4 [0, pt, 0, e3, 0, 0]) := Lib.hid (by have := HD4.out; rw [hq2, he3] at this; exact this)
            have d2 : w4.cell? ⟨g3, 2, none⟩ = some (.int .i64 0) := HA5.out.cell 2 _ rfl
            have d3 : w4.cell? ⟨g4, 2, none⟩ = some (.int .i64 0) := HD5.out.cell 2 _ rfl
            have ll1 := HA5.out.lt
            have ll2 := HD5.out.lt
            have hT3 := HT2.out
            obtain rfl : t = 0 := by omega
            clear HA4 HD4
            try clear hT3
            go_upto_region 18 with (fail)
            refine wp_region_ext (by kernel_rfl) (by kernel_rfl) ?_
            repeat (go_big_quiet_step (fail))
            refine wpQuiet_nil ?_
            intro v8 hv8
            replace hv8 := ext_below hv8
            have HA8 := Lib.hid (HA5.out.below hv8)
            have HD8 := Lib.hid (HD5.out.below hv8)
            have HB8 := Lib.hid (HB4.out.trans (hv8.mono HB4.out.size))
            have cz8 := (hv8.cell (p := ⟨bb, off + k, none⟩) hbr).trans cz
            clear HA5 HD5 HB4 d2 d3 cz hv8
            go_wp2
            go_roundw
            case rel => exact ⟨k + 1, g3, c3, g4, c4, 0, 0, 0, 0, 0, e3, 0, 0, false, false, by omega, by omega, rfl, rfl, by first | rfl | go_num, by first | rfl | go_num, rfl, rfl, by go_num, by omega, by omega, by omega, by have := HT2.out; simp <;> omega, by have := HT2.out; simp <;> omega, HA8, HD8, hg34, hgg, HB8⟩
            case measure => simp [intOf]; omega
        · have hT2 : t = 0 := by simp at hbu hnb; omega
          obtain rfl : q2 = 0 := by simp at hnb; omega
          have HT2 := Lib.hid hT2
          clear hT2 hbu hnb
          have hpt' := HPT.out
          go_upto_region 17 with (fail)
          refine wp_name fun W17 hW17 => ?_
          have HA : Hid (Row W17 g1 [1, pt, q1, e1]) := Lib.hid (by rw [hW17.out]; exact (HR1.out.set 0 1).other n21 _ _)
          have HD : Hid (Row W17 g2 [1, pt, 0, e2, oneB false, oneB false]) := Lib.hid (by rw [hW17.out]; exact (HR2.out.other n12 _ _).set 0 1)
          have HBA : Hid (Below w.heap.size w W17) := Lib.hid (by rw [hW17.out]; have := HB.out; (repeat' (first | (with_reducible exact Below.refl _ _) | (with_reducible assumption) | (with_reducible refine below_drewN ?_ _) | (with_reducible refine Below.drew ?_) | (with_reducible refine below_new ?_ (Nat.le_refl _) _) | (with_reducible refine Below.setCell ?_ ?_ _) | (with_reducible refine below_go ?_ (by assumption) (Nat.le_refl _)) | (simp; done) | (simp; omega) | omega)))
          clear hW17 HR1 HR2 HB c10 c20 f1 f2 l1 l2 cz hbr hwm
          go_wp2_with fail
          refine (ton_step_on 1 pt q1 e1 (by decide) (by omega) (by omega) g1 c1 W17 HA.out (HT.out.on HBA.out)).mono ?_
          rintro e w3 ⟨g3, c3, rfl, hg3, hr3, hb3⟩
          have HA3 : Hid (Row w3 g3 [1, pt, tonQ e1 pt, upI e1 pt]) := Lib.hid hr3
          have HD3 := Lib.hid (HD.out.below hb3)
          have HB3 := Lib.hid (HBA.out.trans (hb3.mono HBA.out.size))
          have hz17 := HBA.out.size
          clear hr3 HA HD HBA hb3
          go_wp2_with fail
          refine (step_tp 1 pt 0 e2 (oneB false) (oneB false) _ (fun g k w h => tp_rise 1 pt 0 e2 g 6 k w (by decide) (by omega) h (by omega) (by omega)) g2 c2 w3 HD3.out (HT.out.on HB3.out)).mono ?_
          rintro e w4 ⟨g4, c4, rfl, hg4, hr4, hb4⟩
          have HA4 := Lib.hid (HA3.out.below hb4)
          have HD4 : Hid (Row w4 g4 [1, pt, tpQ 0 pt, upI 0 pt, 1, tpQ 0 pt]) := Lib.hid hr4
          have HB4 := Lib.hid (HB3.out.trans (hb4.mono HB3.out.size))
          have hl3 := HA3.out.lt
          have hz3 := HB3.out.size
          have hz4 := HB4.out.size
          clear hr4 HA3 HD3 HB3 hb4
          have cz : w4.cell? ⟨bb, off + k, none⟩ = some (.bool true) := (HB4.out.cell (p := ⟨bb, off + k, none⟩) hbl).trans HZ.out
          have hbr : bb < w4.heap.size := by omega
          have hg34 : g3 ≠ g4 := by omega
          have hgg : w.heap.size ≤ g3 ∧ w.heap.size ≤ g4 := by omega
          obtain ⟨ee, hee⟩ : ∃ ee, upI e1 pt = ee := ⟨_, rfl⟩
          obtain ⟨e3, he3⟩ : ∃ e3, upI 0 pt = e3 := ⟨_, rfl⟩
          have hu1 := upI_cases e1 pt
          have hu2 := upI_cases 0 pt
          rw [hee] at hu1
          rw [he3] at hu2
          by_cases hge : pt ≤ m + 1 <;> by_cases hlf : 0 < pt
          · have hqq : tonQ e1 pt = 1 := by rw [tonQ_is, hee, show decide (pt ≤ ee) = true from by simp; omega]; rfl
            have hq2 : tpQ 0 pt = 1 := by rw [tpQ_is, show decide (0 < pt) = true from by simp; omega]; rfl
            have HA5 : Hid (Row w4 g3 [1, pt, 1, ee]) := Lib.hid (by have := HA4.out; rw [hqq, hee] at this; exact this)
            have HD5 : Hid (Row w4 g4 [1, pt, 1, e3, 1, 1]) := Lib.hid (by have := HD4.out; rw [hq2, he3] at this; exact this)
            have d2 : w4.cell? ⟨g3, 2, none⟩ = some (.int .i64 1) := HA5.out.cell 2 _ rfl
            have d3 : w4.cell? ⟨g4, 2, none⟩ = some (.int .i64 1) := HD5.out.cell 2 _ rfl
            have ll1 := HA5.out.lt
            have ll2 := HD5.out.lt
            have hT3 := HT2.out
            have hpos : 0 < pt := by omega
            have hnz : ¬ pt = 0 := by omega
            have hwt : IntKind.i64.wrap (pt - 1) = pt - 1 := IntWalk.i64_in _ (by omega)
            have hmx : max (pt - 1) 0 = pt - 1 := by omega
            have hgd : pt ≤ m + 1 := hge
            clear HA4 HD4
            try clear hT3
            go_upto_region 18 with (fail)
            refine wp_region_ext (by kernel_rfl) (by kernel_rfl) ?_
            repeat (go_big_quiet_step (fail))
            refine wpQuiet_nil ?_
            intro v8 hv8
            replace hv8 := ext_below hv8
            have HA8 := Lib.hid (HA5.out.below hv8)
            have HD8 := Lib.hid (HD5.out.below hv8)
            have HB8 := Lib.hid (HB4.out.trans (hv8.mono HB4.out.size))
            have cz8 := (hv8.cell (p := ⟨bb, off + k, none⟩) hbr).trans cz
            clear HA5 HD5 HB4 d2 d3 cz hv8
            go_wp2
            go_roundw
            case rel => exact ⟨k + 1, g3, c3, g4, c4, 1, 1, 1, 1, ee, e3, (m + 1), pt - 1, true, true, by omega, by omega, rfl, rfl, by first | rfl | go_num, by first | rfl | go_num, rfl, rfl, by go_num, by omega, by omega, by omega, by have := HT2.out; simp <;> omega, by have := HT2.out; simp <;> omega, HA8, HD8, hg34, hgg, HB8⟩
            case measure => simp [intOf]; omega
          · have hqq : tonQ e1 pt = 1 := by rw [tonQ_is, hee, show decide (pt ≤ ee) = true from by simp; omega]; rfl
            have hq2 : tpQ 0 pt = 0 := by rw [tpQ_is, show decide (0 < pt) = false from by simp; omega]; rfl
            have HA5 : Hid (Row w4 g3 [1, pt, 1, ee]) := Lib.hid (by have := HA4.out; rw [hqq, hee] at this; exact this)
            have HD5 : Hid (Row w4 g4 [1, pt, 0, e3, 1, 0]) := Lib.hid (by have := HD4.out; rw [hq2, he3] at this; exact this)
            have d2 : w4.cell? ⟨g3, 2, none⟩ = some (.int .i64 1) := HA5.out.cell 2 _ rfl
            have d3 : w4.cell? ⟨g4, 2, none⟩ = some (.int .i64 0) := HD5.out.cell 2 _ rfl
            have ll1 := HA5.out.lt
            have ll2 := HD5.out.lt
            have hT3 := HT2.out
            have hnp : ¬ 0 < pt := by omega
            have hpz : (pt == 0) = true := by simp; omega
            have hwt : IntKind.i64.wrap (pt - 1) = pt - 1 := IntWalk.i64_in _ (by omega)
            have hmx : max (pt - 1) 0 = 0 := by omega
            have hgd : pt ≤ m + 1 := hge
            clear HA4 HD4
            try clear hT3
            go_upto_region 18 with (fail)
            refine wp_region_ext (by kernel_rfl) (by kernel_rfl) ?_
            repeat (go_big_quiet_step (fail))
            refine wpQuiet_nil ?_
            intro v8 hv8
            replace hv8 := ext_below hv8
            have HA8 := Lib.hid (HA5.out.below hv8)
            have HD8 := Lib.hid (HD5.out.below hv8)
            have HB8 := Lib.hid (HB4.out.trans (hv8.mono HB4.out.size))
            have cz8 := (hv8.cell (p := ⟨bb, off + k, none⟩) hbr).trans cz
            clear HA5 HD5 HB4 d2 d3 cz hv8
            go_wp2
            go_roundw
            case rel => exact ⟨k + 1, g3, c3, g4, c4, 1, 1, 1, 0, ee, e3, (m + 1), 0, true, false, by omega, by omega, rfl, rfl, by first | rfl | go_num, by first | rfl | go_num, rfl, rfl, by go_num, by omega, by omega, by omega, by have := HT2.out; simp <;> omega, by have := HT2.out; simp <;> omega, HA8, HD8, hg34, hgg, HB8⟩
            case measure => simp [intOf]; omega
          · have hqq : tonQ e1 pt = 0 := by rw [tonQ_is, hee, show decide (pt ≤ ee) = false from by simp; omega]; rfl
            have hq2 : tpQ 0 pt = 1 := by rw [tpQ_is, show decide (0 < pt) = true from by simp; omega]; rfl
            have HA5 : Hid (Row w4 g3 [1, pt, 0, ee]) := Lib.hid (by have := HA4.out; rw [hqq, hee] at this; exact this)
            have HD5 : Hid (Row w4 g4 [1, pt, 1, e3, 1, 1]) := Lib.hid (by have := HD4.out; rw [hq2, he3] at this; exact this)
            have d2 : w4.cell? ⟨g3, 2, none⟩ = some (.int .i64 0) := HA5.out.cell 2 _ rfl
            have d3 : w4.cell? ⟨g4, 2, none⟩ = some (.int .i64 1) := HD5.out.cell 2 _ rfl
            have ll1 := HA5.out.lt
            have ll2 := HD5.out.lt
            have hT3 := HT2.out
            have hpos : 0 < pt := by omega
            have hnz : ¬ pt = 0 := by omega
            have hwt : IntKind.i64.wrap (pt - 1) = pt - 1 := IntWalk.i64_in _ (by omega)
            have hmx : max (pt - 1) 0 = pt - 1 := by omega
            have hgd : ¬ pt ≤ m + 1 := hge
            have hgd2 : m + 1 < pt := by omega
            have hgd3 : decide (pt ≤ m + 1) = false := by simp; omega
            clear HA4 HD4
            try clear hT3
            go_upto_region 18 with (fail)
            refine wp_region_ext (by kernel_rfl) (by kernel_rfl) ?_
            repeat (go_big_quiet_step (fail))
            refine wpQuiet_nil ?_
            intro v8 hv8
            replace hv8 := ext_below hv8
            have HA8 := Lib.hid (HA5.out.below hv8)
            have HD8 := Lib.hid (HD5.out.below hv8)
            have HB8 := Lib.hid (HB4.out.trans (hv8.mono HB4.out.size))
            have cz8 := (hv8.cell (p := ⟨bb, off + k, none⟩) hbr).trans cz
            clear HA5 HD5 HB4 d2 d3 cz hv8
            go_wp2
            go_roundw
            case rel => exact ⟨k + 1, g3, c3, g4, c4, 1, 1, 0, 1, ee, e3, (m + 1), pt - 1, true, true, by omega, by omega, rfl, rfl, by first | rfl | go_num, by first | rfl | go_num, rfl, rfl, by go_num, by omega, by omega, by omega, by have := HT2.out; simp <;> omega, by have := HT2.out; simp <;> omega, HA8, HD8, hg34, hgg, HB8⟩
            case measure => simp [intOf]; omega
          · exfalso
            omega
        · have hT2 : t = pt - e2 ∧ 0 ≤ t := by simp at hbu hnb; omega
          skip
          have HT2 := Lib.hid hT2
          clear hT2 hbu hnb
          have hpt' := HPT.out
          go_upto_region 17 with (fail)
          refine wp_name fun W17 hW17 => ?_
          have HA : Hid (Row W17 g1 [1, pt, q1, e1]) := Lib.hid (by rw [hW17.out]; exact (HR1.out.set 0 1).other n21 _ _)
          have HD : Hid (Row W17 g2 [1, pt, q2, e2, oneB false, oneB true]) := Lib.hid (by rw [hW17.out]; exact (HR2.out.other n12 _ _).set 0 1)
          have HBA : Hid (Below w.heap.size w W17) := Lib.hid (by rw [hW17.out]; have := HB.out; (repeat' (first | (with_reducible exact Below.refl _ _) | (with_reducible assumption) | (with_reducible refine below_drewN ?_ _) | (with_reducible refine Below.drew ?_) | (with_reducible refine below_new ?_ (Nat.le_refl _) _) | (with_reducible refine Below.setCell ?_ ?_ _) | (with_reducible refine below_go ?_ (by assumption) (Nat.le_refl _)) | (simp; done) | (simp; omega) | omega)))
          clear hW17 HR1 HR2 HB c10 c20 f1 f2 l1 l2 cz hbr hwm
          go_wp2_with fail
          refine (ton_step_on 1 pt q1 e1 (by decide) (by omega) (by omega) g1 c1 W17 HA.out (HT.out.on HBA.out)).mono ?_
          rintro e w3 ⟨g3, c3, rfl, hg3, hr3, hb3⟩
          have HA3 : Hid (Row w3 g3 [1, pt, tonQ e1 pt, upI e1 pt]) := Lib.hid hr3
          have HD3 := Lib.hid (HD.out.below hb3)
          have HB3 := Lib.hid (HBA.out.trans (hb3.mono HBA.out.size))
          have hz17 := HBA.out.size
          clear hr3 HA HD HBA hb3
          go_wp2_with fail
          refine (step_tp 1 pt q2 e2 (oneB false) (oneB true) _ (fun g k w h => tp_run2 1 1 pt q2 e2 g 6 k w (by decide) (by decide) (by omega) h (by omega) (by omega)) g2 c2 w3 HD3.out (HT.out.on HB3.out)).mono ?_
          rintro e w4 ⟨g4, c4, rfl, hg4, hr4, hb4⟩
          have HA4 := Lib.hid (HA3.out.below hb4)
          have HD4 : Hid (Row w4 g4 [1, pt, tpQ e2 pt, upI e2 pt, 1, tpQ e2 pt]) := Lib.hid hr4
          have HB4 := Lib.hid (HB3.out.trans (hb4.mono HB3.out.size))
          have hl3 := HA3.out.lt
          have hz3 := HB3.out.size
          have hz4 := HB4.out.size
          clear hr4 HA3 HD3 HB3 hb4
          have cz : w4.cell? ⟨bb, off + k, none⟩ = some (.bool true) := (HB4.out.cell (p := ⟨bb, off + k, none⟩) hbl).trans HZ.out
          have hbr : bb < w4.heap.size := by omega
          have hg34 : g3 ≠ g4 := by omega
          have hgg : w.heap.size ≤ g3 ∧ w.heap.size ≤ g4 := by omega
          obtain ⟨ee, hee⟩ : ∃ ee, upI e1 pt = ee := ⟨_, rfl⟩
          obtain ⟨e3, he3⟩ : ∃ e3, upI e2 pt = e3 := ⟨_, rfl⟩
          have hu1 := upI_cases e1 pt
          have hu2 := upI_cases e2 pt
          rw [hee] at hu1
          rw [he3] at hu2
          by_cases hge : pt ≤ m + 1 <;> by_cases hlf : e2 < pt
          · have hqq : tonQ e1 pt = 1 := by rw [tonQ_is, hee, show decide (pt ≤ ee) = true from by simp; omega]; rfl
            have hq2 : tpQ e2 pt = 1 := by rw [tpQ_is, show decide (e2 < pt) = true from by simp; omega]; rfl
            have HA5 : Hid (Row w4 g3 [1, pt, 1, ee]) := Lib.hid (by have := HA4.out; rw [hqq, hee] at this; exact this)
            have HD5 : Hid (Row w4 g4 [1, pt, 1, e3, 1, 1]) := Lib.hid (by have := HD4.out; rw [hq2, he3] at this; exact this)
            have d2 : w4.cell? ⟨g3, 2, none⟩ = some (.int .i64 1) := HA5.out.cell 2 _ rfl
            have d3 : w4.cell? ⟨g4, 2, none⟩ = some (.int .i64 1) := HD5.out.cell 2 _ rfl
            have ll1 := HA5.out.lt
            have ll2 := HD5.out.lt
            have hT3 := HT2.out
            have hpos : 0 < t := by omega
            have hnz : ¬ t = 0 := by omega
            have hwt : IntKind.i64.wrap (t - 1) = t - 1 := IntWalk.i64_in _ (by omega)
            have hmx : max (t - 1) 0 = t - 1 := by omega
            have hgd : pt ≤ m + 1 := hge
            clear HA4 HD4
            try clear hT3
            go_upto_region 18 with (fail)
            refine wp_region_ext (by kernel_rfl) (by kernel_rfl) ?_
            repeat (go_big_quiet_step (fail))
            refine wpQuiet_nil ?_
            intro v8 hv8
            replace hv8 := ext_below hv8
            have HA8 := Lib.hid (HA5.out.below hv8)
            have HD8 := Lib.hid (HD5.out.below hv8)
            have HB8 := Lib.hid (HB4.out.trans (hv8.mono HB4.out.size))
            have cz8 := (hv8.cell (p := ⟨bb, off + k, none⟩) hbr).trans cz
            clear HA5 HD5 HB4 d2 d3 cz hv8
            go_wp2
            go_roundw
            case rel => exact ⟨k + 1, g3, c3, g4, c4, 1, 1, 1, 1, ee, e3, (m + 1), t - 1, true, true, by omega, by omega, rfl, rfl, by first | rfl | go_num, by first | rfl | go_num, rfl, rfl, by go_num, by omega, by omega, by omega, by have := HT2.out; simp <;> omega, by have := HT2.out; simp <;> omega, HA8, HD8, hg34, hgg, HB8⟩
            case measure => simp [intOf]; omega
          · have hqq : tonQ e1 pt = 1 := by rw [tonQ_is, hee, show decide (pt ≤ ee) = true from by simp; omega]; rfl
            have hq2 : tpQ e2 pt = 0 := by rw [tpQ_is, show decide (e2 < pt) = false from by simp; omega]; rfl
            have HA5 : Hid (Row w4 g3 [1, pt, 1, ee]) := Lib.hid (by have := HA4.out; rw [hqq, hee] at this; exact this)
            have HD5 : Hid (Row w4 g4 [1, pt, 0, e3, 1, 0]) := Lib.hid (by have := HD4.out; rw [hq2, he3] at this; exact this)
            have d2 : w4.cell? ⟨g3, 2, none⟩ = some (.int .i64 1) := HA5.out.cell 2 _ rfl
            have d3 : w4.cell? ⟨g4, 2, none⟩ = some (.int .i64 0) := HD5.out.cell 2 _ rfl
            have ll1 := HA5.out.lt
            have ll2 := HD5.out.lt
            have hT3 := HT2.out
            obtain rfl : t = 0 := by omega
            have hgd : pt ≤ m + 1 := hge
            clear HA4 HD4
            try clear hT3
            go_upto_region 18 with (fail)
            refine wp_region_ext (by kernel_rfl) (by kernel_rfl) ?_
            repeat (go_big_quiet_step (fail))
            refine wpQuiet_nil ?_
            intro v8 hv8
            replace hv8 := ext_below hv8
            have HA8 := Lib.hid (HA5.out.below hv8)
            have HD8 := Lib.hid (HD5.out.below hv8)
            have HB8 := Lib.hid (HB4.out.trans (hv8.mono HB4.out.size))
            have cz8 := (hv8.cell (p := ⟨bb, off + k, none⟩) hbr).trans cz
            clear HA5 HD5 HB4 d2 d3 cz hv8
            go_wp2
            go_roundw
            case rel => exact ⟨k + 1, g3, c3, g4, c4, 1, 1, 1, 0, ee, e3, (m + 1), 0, true, false, by omega, by omega, rfl, rfl, by first | rfl | go_num, by first | rfl | go_num, rfl, rfl, by go_num, by omega, by omega, by omega, by have := HT2.out; simp <;> omega, by have := HT2.out; simp <;> omega, HA8, HD8, hg34, hgg, HB8⟩
            case measure => simp [intOf]; omega
          · have hqq : tonQ e1 pt = 0 := by rw [tonQ_is, hee, show decide (pt ≤ ee) = false from by simp; omega]; rfl
            have hq2 : tpQ e2 pt = 1 := by rw [tpQ_is, show decide (e2 < pt) = true from by simp; omega]; rfl
            have HA5 : Hid (Row w4 g3 [1, pt, 0, ee]) := Lib.hid (by have := HA4.out; rw [hqq, hee] at this; exact this)
            have HD5 : Hid (Row w4 g4 [1, pt, 1, e3, 1, 1]) := Lib.hid (by have := HD4.out; rw [hq2, he3] at this; exact this)
            have d2 : w4.cell? ⟨g3, 2, none⟩ = some (.int .i64 0) := HA5.out.cell 2 _ rfl
            have d3 : w4.cell? ⟨g4, 2, none⟩ = some (.int .i64 1) := HD5.out.cell 2 _ rfl
            have ll1 := HA5.out.lt
            have ll2 := HD5.out.lt
            have hT3 := HT2.out
            have hpos : 0 < t := by omega
            have hnz : ¬ t = 0 := by omega
            have hwt : IntKind.i64.wrap (t - 1) = t - 1 := IntWalk.i64_in _ (by omega)
            have hmx : max (t - 1) 0 = t - 1 := by omega
            have hgd : ¬ pt ≤ m + 1 := hge
            have hgd2 : m + 1 < pt := by omega
            have hgd3 : decide (pt ≤ m + 1) = false := by simp; omega
            clear HA4 HD4
            try clear hT3
            go_upto_region 18 with (fail)
            refine wp_region_ext (by kernel_rfl) (by kernel_rfl) ?_
            repeat (go_big_quiet_step (fail))
            refine wpQuiet_nil ?_
            intro v8 hv8
            replace hv8 := ext_below hv8
            have HA8 := Lib.hid (HA5.out.below hv8)
            have HD8 := Lib.hid (HD5.out.below hv8)
            have HB8 := Lib.hid (HB4.out.trans (hv8.mono HB4.out.size))
            have cz8 := (hv8.cell (p := ⟨bb, off + k, none⟩) hbr).trans cz
            clear HA5 HD5 HB4 d2 d3 cz hv8
            go_wp2
            go_roundw
            case rel => exact ⟨k + 1, g3, c3, g4, c4, 1, 1, 0, 1, ee, e3, (m + 1), t - 1, true, true, by omega, by omega, rfl, rfl, by first | rfl | go_num, by first | rfl | go_num, rfl, rfl, by go_num, by omega, by omega, by omega, by have := HT2.out; simp <;> omega, by have := HT2.out; simp <;> omega, HA8, HD8, hg34, hgg, HB8⟩
            case measure => simp [intOf]; omega
          · have hqq : tonQ e1 pt = 0 := by rw [tonQ_is, hee, show decide (pt ≤ ee) = false from by simp; omega]; rfl
            have hq2 : tpQ e2 pt = 0 := by rw [tpQ_is, show decide (e2 < pt) = false from by simp; omega]; rfl
            have HA5 : Hid (Row w4 g3 [1, pt, 0, ee]) := Lib.hid (by have := HA4.out; rw [hqq, hee] at this; exact this)
            have HD5 : Hid (Row w4 g4 [1, pt, 0, e3, 1, 0]) := Lib.hid (by have := HD4.out; rw [hq2, he3] at this; exact this)
            have d2 : w4.cell? ⟨g3, 2, none⟩ = some (.int .i64 0) := HA5.out.cell 2 _ rfl
            have d3 : w4.cell? ⟨g4, 2, none⟩ = some (.int .i64 0) := HD5.out.cell 2 _ rfl
            have ll1 := HA5.out.lt
            have ll2 := HD5.out.lt
            have hT3 := HT2.out
            obtain rfl : t = 0 := by omega
            have hgd : ¬ pt ≤ m + 1 := hge
            have hgd2 : m + 1 < pt := by omega
            have hgd3 : decide (pt ≤ m + 1) = false := by simp; omega
            clear HA4 HD4
            try clear hT3
            go_upto_region 18 with (fail)
            refine wp_region_ext (by kernel_rfl) (by kernel_rfl) ?_
            repeat (go_big_quiet_step (fail))
            refine wpQuiet_nil ?_
            intro v8 hv8
            replace hv8 := ext_below hv8
            have HA8 := Lib.hid (HA5.out.below hv8)
            have HD8 := Lib.hid (HD5.out.below hv8)
            have HB8 := Lib.hid (HB4.out.trans (hv8.mono HB4.out.size))
            have cz8 := (hv8.cell (p := ⟨bb, off + k, none⟩) hbr).trans cz
            clear HA5 HD5 HB4 d2 d3 cz hv8
            go_wp2
            go_roundw
            case rel => exact ⟨k + 1, g3, c3, g4, c4, 1, 1, 0, 0, ee, e3, (m + 1), 0, true, false, by omega, by omega, rfl, rfl, by first | rfl | go_num, by first | rfl | go_num, rfl, rfl, by go_num, by omega, by omega, by omega, by have := HT2.out; simp <;> omega, by have := HT2.out; simp <;> omega, HA8, HD8, hg34, hgg, HB8⟩
            case measure => simp [intOf]; omega
        · have hT2 : t = 0 := by simp at hbu hnb; omega
          obtain rfl : q2 = 0 := by simp at hnb; omega
          have HT2 := Lib.hid hT2
          clear hT2 hbu hnb
          have hpt' := HPT.out
          go_upto_region 17 with (fail)
          refine wp_name fun W17 hW17 => ?_
          have HA : Hid (Row W17 g1 [1, pt, q1, e1]) := Lib.hid (by rw [hW17.out]; exact (HR1.out.set 0 1).other n21 _ _)
          have HD : Hid (Row W17 g2 [1, pt, 0, e2, oneB true, oneB false]) := Lib.hid (by rw [hW17.out]; exact (HR2.out.other n12 _ _).set 0 1)
          have HBA : Hid (Below w.heap.size w W17) := Lib.hid (by rw [hW17.out]; have := HB.out; (repeat' (first | (with_reducible exact Below.refl _ _) | (with_reducible assumption) | (with_reducible refine below_drewN ?_ _) | (with_reducible refine Below.drew ?_) | (with_reducible refine below_new ?_ (Nat.le_refl _) _) | (with_reducible refine Below.setCell ?_ ?_ _) | (with_reducible refine below_go ?_ (by assumption) (Nat.le_refl _)) | (simp; done) | (simp; omega) | omega)))
          clear hW17 HR1 HR2 HB c10 c20 f1 f2 l1 l2 cz hbr hwm
          go_wp2_with fail
          refine (ton_step_on 1 pt q1 e1 (by decide) (by omega) (by omega) g1 c1 W17 HA.out (HT.out.on HBA.out)).mono ?_
          rintro e w3 ⟨g3, c3, rfl, hg3, hr3, hb3⟩
          have HA3 : Hid (Row w3 g3 [1, pt, tonQ e1 pt, upI e1 pt]) := Lib.hid hr3
          have HD3 := Lib.hid (HD.out.below hb3)
          have HB3 := Lib.hid (HBA.out.trans (hb3.mono HBA.out.size))
          have hz17 := HBA.out.size
          clear hr3 HA HD HBA hb3
          go_wp2_with fail
          refine (step_tp 1 pt 0 e2 (oneB true) (oneB false) _ (fun g k w h => tp_rest1 1 1 pt 0 e2 g 6 k w (by decide) (by decide) (by omega) h (by omega) (by omega)) g2 c2 w3 HD3.out (HT.out.on HB3.out)).mono ?_
          rintro e w4 ⟨g4, c4, rfl, hg4, hr4, hb4⟩
          have HA4 := Lib.hid (HA3.out.below hb4)
          have HD4 : Hid (Row w4 g4 [1, pt, 0, e2, 1, 0]) := Lib.hid hr4
          have HB4 := Lib.hid (HB3.out.trans (hb4.mono HB3.out.size))
          have hl3 := HA3.out.lt
          have hz3 := HB3.out.size
          have hz4 := HB4.out.size
          clear hr4 HA3 HD3 HB3 hb4
          have cz : w4.cell? ⟨bb, off + k, none⟩ = some (.bool true) := (HB4.out.cell (p := ⟨bb, off + k, none⟩) hbl).trans HZ.out
          have hbr : bb < w4.heap.size := by omega
          have hg34 : g3 ≠ g4 := by omega
          have hgg : w.heap.size ≤ g3 ∧ w.heap.size ≤ g4 := by omega
          obtain ⟨ee, hee⟩ : ∃ ee, upI e1 pt = ee := ⟨_, rfl⟩
          obtain ⟨e3, he3⟩ : ∃ e3, upI e2 pt = e3 := ⟨_, rfl⟩
          have hu1 := upI_cases e1 pt
          have hu2 := upI_cases e2 pt
          rw [hee] at hu1
          rw [he3] at hu2
          by_cases hge : pt ≤ m + 1
          · have hqq : tonQ e1 pt = 1 := by rw [tonQ_is, hee, show decide (pt ≤ ee) = true from by simp; omega]; rfl
            have HA5 : Hid (Row w4 g3 [1, pt, 1, ee]) := Lib.hid (by have := HA4.out; rw [hqq, hee] at this; exact this)
            have HD5 : Hid (Row w4 g4 [1, pt, 0, e2, 1, 0]) := Lib.hid (by have := HD4.out; exact this)
            have d2 : w4.cell? ⟨g3, 2, none⟩ = some (.int .i64 1) := HA5.out.cell 2 _ rfl
            have d3 : w4.cell? ⟨g4, 2, none⟩ = some (.int .i64 0) := HD5.out.cell 2 _ rfl
            have ll1 := HA5.out.lt
            have ll2 := HD5.out.lt
            have hT3 := HT2.out
            obtain rfl : t = 0 := hT3
            have hgd : pt ≤ m + 1 := hge
            clear HA4 HD4
            try clear hT3
            go_upto_region 18 with (fail)
            refine wp_region_ext (by kernel_rfl) (by kernel_rfl) ?_
            repeat (go_big_quiet_step (fail))
            refine wpQuiet_nil ?_
            intro v8 hv8
            replace hv8 := ext_below hv8
            have HA8 := Lib.hid (HA5.out.below hv8)
            have HD8 := Lib.hid (HD5.out.below hv8)
            have HB8 := Lib.hid (HB4.out.trans (hv8.mono HB4.out.size))
            have cz8 := (hv8.cell (p := ⟨bb, off + k, none⟩) hbr).trans cz
            clear HA5 HD5 HB4 d2 d3 cz hv8
            go_wp2
            go_roundw
            case rel => exact ⟨k + 1, g3, c3, g4, c4, 1, 1, 1, 0, ee, e2, (m + 1), 0, true, false, by omega, by omega, rfl, rfl, by first | rfl | go_num, by first | rfl | go_num, rfl, rfl, by go_num, by omega, by omega, by omega, by have := HT2.out; simp <;> omega, by have := HT2.out; simp <;> omega, HA8, HD8, hg34, hgg, HB8⟩
            case measure => simp [intOf]; omega
          · have hqq : tonQ e1 pt = 0 := by rw [tonQ_is, hee, show decide (pt ≤ ee) = false from by simp; omega]; rfl
            have HA5 : Hid (Row w4 g3 [1, pt, 0, ee]) := Lib.hid (by have := HA4.out; rw [hqq, hee] at this; exact this)
            have HD5 : Hid (Row w4 g4 [1, pt, 0, e2, 1, 0]) := Lib.hid (by have := HD4.out; exact this)
            have d2 : w4.cell? ⟨g3, 2, none⟩ = some (.int .i64 0) := HA5.out.cell 2 _ rfl
            have d3 : w4.cell? ⟨g4, 2, none⟩ = some (.int .i64 0) := HD5.out.cell 2 _ rfl
            have ll1 := HA5.out.lt
            have ll2 := HD5.out.lt
            have hT3 := HT2.out
            obtain rfl : t = 0 := hT3
            have hgd : ¬ pt ≤ m + 1 := hge
            have hgd2 : m + 1 < pt := by omega
            have hgd3 : decide (pt ≤ m + 1) = false := by simp; omega
            clear HA4 HD4
            try clear hT3
            go_upto_region 18 with (fail)
            refine wp_region_ext (by kernel_rfl) (by kernel_rfl) ?_
            repeat (go_big_quiet_step (fail))
            refine wpQuiet_nil ?_
            intro v8 hv8
            replace hv8 := ext_below hv8
            have HA8 := Lib.hid (HA5.out.below hv8)
            have HD8 := Lib.hid (HD5.out.below hv8)
            have HB8 := Lib.hid (HB4.out.trans (hv8.mono HB4.out.size))
            have cz8 := (hv8.cell (p := ⟨bb, off + k, none⟩) hbr).trans cz
            clear HA5 HD5 HB4 d2 d3 cz hv8
            go_wp2
            go_roundw
            case rel => exact ⟨k + 1, g3, c3, g4, c4, 1, 1, 0, 0, ee, e2, (m + 1), 0, true, false, by omega, by omega, rfl, rfl, by first | rfl | go_num, by first | rfl | go_num, rfl, rfl, by go_num, by omega, by omega, by omega, by have := HT2.out; simp <;> omega, by have := HT2.out; simp <;> omega, HA8, HD8, hg34, hgg, HB8⟩
            case measure => simp [intOf]; omega
        · have hT2 : t = pt - e2 ∧ 0 ≤ t := by simp at hbu hnb; omega
          skip
          have HT2 := Lib.hid hT2
          clear hT2 hbu hnb
          have hpt' := HPT.out
          go_upto_region 17 with (fail)
          refine wp_name fun W17 hW17 => ?_
          have HA : Hid (Row W17 g1 [1, pt, q1, e1]) := Lib.hid (by rw [hW17.out]; exact (HR1.out.set 0 1).other n21 _ _)
          have HD : Hid (Row W17 g2 [1, pt, q2, e2, oneB true, oneB true]) := Lib.hid (by rw [hW17.out]; exact (HR2.out.other n12 _ _).set 0 1)
          have HBA : Hid (Below w.heap.size w W17) := Lib.hid (by rw [hW17.out]; have := HB.out; (repeat' (first | (with_reducible exact Below.refl _ _) | (with_reducible assumption) | (with_reducible refine below_drewN ?_ _) | (with_reducible refine Below.drew ?_) | (with_reducible refine below_new ?_ (Nat.le_refl _) _) | (with_reducible refine Below.setCell ?_ ?_ _) | (with_reducible refine below_go ?_ (by assumption) (Nat.le_refl _)) | (simp; done) | (simp; omega) | omega)))
          clear hW17 HR1 HR2 HB c10 c20 f1 f2 l1 l2 cz hbr hwm
          go_wp2_with fail
          refine (ton_step_on 1 pt q1 e1 (by decide) (by omega) (by omega) g1 c1 W17 HA.out (HT.out.on HBA.out)).mono ?_
          rintro e w3 ⟨g3, c3, rfl, hg3, hr3, hb3⟩
          have HA3 : Hid (Row w3 g3 [1, pt, tonQ e1 pt, upI e1 pt]) := Lib.hid hr3
          have HD3 := Lib.hid (HD.out.below hb3)
          have HB3 := Lib.hid (HBA.out.trans (hb3.mono HBA.out.size))
          have hz17 := HBA.out.size
          clear hr3 HA HD HBA hb3
          go_wp2_with fail
          refine (step_tp 1 pt q2 e2 (oneB true) (oneB true) _ (fun g k w h => tp_run1 1 1 1 pt q2 e2 g 6 k w (by decide) (by decide) (by decide) (by omega) h (by omega) (by omega)) g2 c2 w3 HD3.out (HT.out.on HB3.out)).mono ?_
          rintro e w4 ⟨g4, c4, rfl, hg4, hr4, hb4⟩
          have HA4 := Lib.hid (HA3.out.below hb4)
          have HD4 : Hid (Row w4 g4 [1, pt, tpQ e2 pt, upI e2 pt, 1, tpQ e2 pt]) := Lib.hid hr4
          have HB4 := Lib.hid (HB3.out.trans (hb4.mono HB3.out.size))
          have hl3 := HA3.out.lt
          have hz3 := HB3.out.size
          have hz4 := HB4.out.size
          clear hr4 HA3 HD3 HB3 hb4
          have cz : w4.cell? ⟨bb, off + k, none⟩ = some (.bool true) := (HB4.out.cell (p := ⟨bb, off + k, none⟩) hbl).trans HZ.out
          have hbr : bb < w4.heap.size := by omega
          have hg34 : g3 ≠ g4 := by omega
          have hgg : w.heap.size ≤ g3 ∧ w.heap.size ≤ g4 := by omega
          obtain ⟨ee, hee⟩ : ∃ ee, upI e1 pt = ee := ⟨_, rfl⟩
          obtain ⟨e3, he3⟩ : ∃ e3, upI e2 pt = e3 := ⟨_, rfl⟩
          have hu1 := upI_cases e1 pt
          have hu2 := upI_cases e2 pt
          rw [hee] at hu1
          rw [he3] at hu2
          by_cases hge : pt ≤ m + 1 <;> by_cases hlf : e2 < pt
          · have hqq : tonQ e1 pt = 1 := by rw [tonQ_is, hee, show decide (pt ≤ ee) = true from by simp; omega]; rfl
            have hq2 : tpQ e2 pt = 1 := by rw [tpQ_is, show decide (e2 < pt) = true from by simp; omega]; rfl
            have HA5 : Hid (Row w4 g3 [1, pt, 1, ee]) := Lib.hid (by have := HA4.out; rw [hqq, hee] at this; exact this)
            have HD5 : Hid (Row w4 g4 [1, pt, 1, e3, 1, 1]) := Lib.hid (by have := HD4.out; rw [hq2, he3] at this; exact this)
            have d2 : w4.cell? ⟨g3, 2, none⟩ = some (.int .i64 1) := HA5.out.cell 2 _ rfl
            have d3 : w4.cell? ⟨g4, 2, none⟩ = some (.int .i64 1) := HD5.out.cell 2 _ rfl
            have ll1 := HA5.out.lt
            have ll2 := HD5.out.lt
            have hT3 := HT2.out
            have hpos : 0 < t := by omega
            have hnz : ¬ t = 0 := by omega
            have hwt : IntKind.i64.wrap (t - 1) = t - 1 := IntWalk.i64_in _ (by omega)
            have hmx : max (t - 1) 0 = t - 1 := by omega
            have hgd : pt ≤ m + 1 := hge
            clear HA4 HD4
            try clear hT3
            go_upto_region 18 with (fail)
            refine wp_region_ext (by kernel_rfl) (by kernel_rfl) ?_
            repeat (go_big_quiet_step (fail))
            refine wpQuiet_nil ?_
            intro v8 hv8
            replace hv8 := ext_below hv8
            have HA8 := Lib.hid (HA5.out.below hv8)
            have HD8 := Lib.hid (HD5.out.below hv8)
            have HB8 := Lib.hid (HB4.out.trans (hv8.mono HB4.out.size))
            have cz8 := (hv8.cell (p := ⟨bb, off + k, none⟩) hbr).trans cz
            clear HA5 HD5 HB4 d2 d3 cz hv8
            go_wp2
            go_roundw
            case rel => exact ⟨k + 1, g3, c3, g4, c4, 1, 1, 1, 1, ee, e3, (m + 1), t - 1, true, true, by omega, by omega, rfl, rfl, by first | rfl | go_num, by first | rfl | go_num, rfl, rfl, by go_num, by omega, by omega, by omega, by have := HT2.out; simp <;> omega, by have := HT2.out; simp <;> omega, HA8, HD8, hg34, hgg, HB8⟩
            case measure => simp [intOf]; omega
          · have hqq : tonQ e1 pt = 1 := by rw [tonQ_is, hee, show decide (pt ≤ ee) = true from by simp; omega]; rfl
            have hq2 : tpQ e2 pt = 0 := by rw [tpQ_is, show decide (e2 < pt) = false from by simp; omega]; rfl
            have HA5 : Hid (Row w4 g3 [1, pt, 1, ee]) := Lib.hid (by have := HA4.out; rw [hqq, hee] at this; exact this)
            have HD5 : Hid (Row w4 g4 [1, pt, 0, e3, 1, 0]) := Lib.hid (by have := HD4.out; rw [hq2, he3] at this; exact this)
            have d2 : w4.cell? ⟨g3, 2, none⟩ = some (.int .i64 1) := HA5.out.cell 2 _ rfl
            have d3 : w4.cell? ⟨g4, 2, none⟩ = some (.int .i64 0) := HD5.out.cell 2 _ rfl
            have ll1 := HA5.out.lt
            have ll2 := HD5.out.lt
            have hT3 := HT2.out
            obtain rfl : t = 0 := by omega
            have hgd : pt ≤ m + 1 := hge
            clear HA4 HD4
            try clear hT3
            go_upto_region 18 with (fail)
            refine wp_region_ext (by kernel_rfl) (by kernel_rfl) ?_
            repeat (go_big_quiet_step (fail))
            refine wpQuiet_nil ?_
            intro v8 hv8
            replace hv8 := ext_below hv8
            have HA8 := Lib.hid (HA5.out.below hv8)
            have HD8 := Lib.hid (HD5.out.below hv8)
            have HB8 := Lib.hid (HB4.out.trans (hv8.mono HB4.out.size))
            have cz8 := (hv8.cell (p := ⟨bb, off + k, none⟩) hbr).trans cz
            clear HA5 HD5 HB4 d2 d3 cz hv8
            go_wp2
            go_roundw
            case rel => exact ⟨k + 1, g3, c3, g4, c4, 1, 1, 1, 0, ee, e3, (m + 1), 0, true, false, by omega, by omega, rfl, rfl, by first | rfl | go_num, by first | rfl | go_num, rfl, rfl, by go_num, by omega, by omega, by omega, by have := HT2.out; simp <;> omega, by have := HT2.out; simp <;> omega, HA8, HD8, hg34, hgg, HB8⟩
            case measure => simp [intOf]; omega
          · have hqq : tonQ e1 pt = 0 := by rw [tonQ_is, hee, show decide (pt ≤ ee) = false from by simp; omega]; rfl
            have hq2 : tpQ e2 pt = 1 := by rw [tpQ_is, show decide (e2 < pt) = true from by simp; omega]; rfl
            have HA5 : Hid (Row w4 g3 [1, pt, 0, ee]) := Lib.hid (by have := HA4.out; rw [hqq, hee] at this; exact this)
            have HD5 : Hid (Row w4 g4 [1, pt, 1, e3, 1, 1]) := Lib.hid (by have := HD4.out; rw [hq2, he3] at this; exact this)
            have d2 : w4.cell? ⟨g3, 2, none⟩ = some (.int .i64 0) := HA5.out.cell 2 _ rfl
            have d3 : w4.cell? ⟨g4, 2, none⟩ = some (.int .i64 1) := HD5.out.cell 2 _ rfl
            have ll1 := HA5.out.lt
            have ll2 := HD5.out.lt
            have hT3 := HT2.out
            have hpos : 0 < t := by omega
            have hnz : ¬ t = 0 := by omega
            have hwt : IntKind.i64.wrap (t - 1) = t - 1 := IntWalk.i64_in _ (by omega)
            have hmx : max (t - 1) 0 = t - 1 := by omega
            have hgd : ¬ pt ≤ m + 1 := hge
            have hgd2 : m + 1 < pt := by omega
            have hgd3 : decide (pt ≤ m + 1) = false := by simp; omega
            clear HA4 HD4
            try clear hT3
            go_upto_region 18 with (fail)
            refine wp_region_ext (by kernel_rfl) (by kernel_rfl) ?_
            repeat (go_big_quiet_step (fail))
            refine wpQuiet_nil ?_
            intro v8 hv8
            replace hv8 := ext_below hv8
            have HA8 := Lib.hid (HA5.out.below hv8)
            have HD8 := Lib.hid (HD5.out.below hv8)
            have HB8 := Lib.hid (HB4.out.trans (hv8.mono HB4.out.size))
            have cz8 := (hv8.cell (p := ⟨bb, off + k, none⟩) hbr).trans cz
            clear HA5 HD5 HB4 d2 d3 cz hv8
            go_wp2
            go_roundw
            case rel => exact ⟨k + 1, g3, c3, g4, c4, 1, 1, 0, 1, ee, e3, (m + 1), t - 1, true, true, by omega, by omega, rfl, rfl, by first | rfl | go_num, by first | rfl | go_num, rfl, rfl, by go_num, by omega, by omega, by omega, by have := HT2.out; simp <;> omega, by have := HT2.out; simp <;> omega, HA8, HD8, hg34, hgg, HB8⟩
            case measure => simp [intOf]; omega
          · have hqq : tonQ e1 pt = 0 := by rw [tonQ_is, hee, show decide (pt ≤ ee) = false from by simp; omega]; rfl
            have hq2 : tpQ e2 pt = 0 := by rw [tpQ_is, show decide (e2 < pt) = false from by simp; omega]; rfl
            have HA5 : Hid (Row w4 g3 [1, pt, 0, ee]) := Lib.hid (by have := HA4.out; rw [hqq, hee] at this; exact this)
            have HD5 : Hid (Row w4 g4 [1, pt, 0, e3, 1, 0]) := Lib.hid (by have := HD4.out; rw [hq2, he3] at this; exact this)
            have d2 : w4.cell? ⟨g3, 2, none⟩ = some (.int .i64 0) := HA5.out.cell 2 _ rfl
            have d3 : w4.cell? ⟨g4, 2, none⟩ = some (.int .i64 0) := HD5.out.cell 2 _ rfl
            have ll1 := HA5.out.lt
            have ll2 := HD5.out.lt
            have hT3 := HT2.out
            obtain rfl : t = 0 := by omega
            have hgd : ¬ pt ≤ m + 1 := hge
            have hgd2 : m + 1 < pt := by omega
            have hgd3 : decide (pt ≤ m + 1) = false := by simp; omega
            clear HA4 HD4
            try clear hT3
            go_upto_region 18 with (fail)
            refine wp_region_ext (by kernel_rfl) (by kernel_rfl) ?_
            repeat (go_big_quiet_step (fail))
            refine wpQuiet_nil ?_
            intro v8 hv8
            replace hv8 := ext_below hv8
            have HA8 := Lib.hid (HA5.out.below hv8)
            have HD8 := Lib.hid (HD5.out.below hv8)
            have HB8 := Lib.hid (HB4.out.trans (hv8.mono HB4.out.size))
            have cz8 := (hv8.cell (p := ⟨bb, off + k, none⟩) hbr).trans cz
            clear HA5 HD5 HB4 d2 d3 cz hv8
            go_wp2
            go_roundw
            case rel => exact ⟨k + 1, g3, c3, g4, c4, 1, 1, 0, 0, ee, e3, (m + 1), 0, true, false, by omega, by omega, rfl, rfl, by first | rfl | go_num, by first | rfl | go_num, rfl, rfl, by go_num, by omega, by omega, by omega, by have := HT2.out; simp <;> omega, by have := HT2.out; simp <;> omega, HA8, HD8, hg34, hgg, HB8⟩
            case measure => simp [intOf]; omega
      · go_wp2
        go_ret
        exact ⟨rfl, HB.out⟩
    · go_wp2
      go_ret
      exact ⟨rfl, HB.out⟩

end Go.Proofs.YtedmhafpaielmaaDoor
