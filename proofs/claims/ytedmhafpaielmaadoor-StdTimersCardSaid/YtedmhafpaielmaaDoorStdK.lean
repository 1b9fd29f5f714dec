/- Layer 16: a CTU counts how often its input rose; an R_TRIG tells each rise, an F_TRIG each fall: the walk. PRINTED by wip/tool/mkcounts.py -/
import Derived.Test.YtedmhafpaielmaaDoorStdJ
namespace Go.Proofs.YtedmhafpaielmaaDoor
open Go.RowKit
set_option linter.unusedVariables false
set_option linter.unusedSimpArgs false
attribute [local go_sem] ite_max ite_min vite_max vite_min ext_cell ext_frozen extS_cell extS_frozen

def cvQ (s r p cv : Int) : Int := bif r != 0 then 0 else bif s != 0 && p == 0 then cv + 1 else cv
def upQ (s p : Int) : Int := bif s != 0 && p == 0 then 1 else 0
def dnQ (s p : Int) : Int := bif s == 0 && p != 0 then 1 else 0
theorem ctu_step (s r p pv q cv : Int) (hs : s = 0 ∨ s = 1) (hr : r = 0 ∨ r = 2) (hp : p = 0 ∨ p = 1) (hcv : 0 ≤ cv ∧ cv ≤ 1000) : StepC 13 6 [s, r, pv, q, cv, p] [s, r, pv, ctQ (cvQ s r p cv) pv, cvQ s r p cv, s] := by
  rcases hs with rfl | rfl <;> rcases hr with rfl | rfl <;> rcases hp with rfl | rfl
  · exact step_ctu _ _ _ _ _ _ _ fun g k w h => ctu000 pv q cv g k w h hcv
  · exact step_ctu _ _ _ _ _ _ _ fun g k w h => ctu001 pv q cv g k w h hcv
  · exact step_ctu _ _ _ _ _ _ _ fun g k w h => ctu020 pv q cv g k w h hcv
  · exact step_ctu _ _ _ _ _ _ _ fun g k w h => ctu021 pv q cv g k w h hcv
  · exact step_ctu _ _ _ _ _ _ _ fun g k w h => ctu100 pv q cv g k w h hcv
  · exact step_ctu _ _ _ _ _ _ _ fun g k w h => ctu101 pv q cv g k w h hcv
  · exact step_ctu _ _ _ _ _ _ _ fun g k w h => ctu120 pv q cv g k w h hcv
  · exact step_ctu _ _ _ _ _ _ _ fun g k w h => ctu121 pv q cv g k w h hcv
theorem up_step (s q p : Int) (hs : s = 0 ∨ s = 1) (hp : p = 0 ∨ p = 1) : StepC 15 3 [s, q, p] [s, upQ s p, s] := by
  rcases hs with rfl | rfl <;> rcases hp with rfl | rfl
  · exact step_up00 q
  · exact step_up01 q
  · exact step_up10 q
  · exact step_up11 q
theorem dn_step (s q p : Int) (hs : s = 0 ∨ s = 1) (hp : p = 0 ∨ p = 1) : StepC 16 3 [s, q, p] [s, dnQ s p, s] := by
  rcases hs with rfl | rfl <;> rcases hp with rfl | rfl
  · exact step_down00 q
  · exact step_down01 q
  · exact step_down10 q
  · exact step_down11 q

set_option maxRecDepth 100000 in
set_option maxHeartbeats 4000000 in
theorem counts_any (pv : Int) (ad : Option Addr) (cap n : Nat) (zs : List Int) (w : World) (htab : Blanks w) (hlen : zs.length = n) (hn : n ≤ cap) (hcap : cap ≤ 9223372036854775807)
    (hby : ∀ z ∈ zs, 0 ≤ z ∧ z ≤ 255) (hc : n = 0 ∨ ∃ b off, ad = some ⟨b, off, none⟩ ∧ b < w.heap.size ∧ ∀ (i : Nat) z, zs[i]? = some z → w.cell? ⟨b, off + i, none⟩ = some (.int .u8 z)) :
    Calls Tryd.prog 4 #[.int .i64 pv, .slice ad n cap] w fun e w' => e = .returned (.bool true) ∧ Below w.heap.size w w' := by
  have HT := Lib.hid htab
  have HC := Lib.hid hc
  have HBY := Lib.hid hby
  have HLEN := Lib.hid hlen
  clear htab hc hby hlen
  go_enter Tryd.func4, Tryd.ntmps4
  go_wp2_with fail
  refine (awake16 w HT.out).mono ?_
  rintro e w1 ⟨rfl, hb1⟩
  go_upto_region 7 with (fail)
  refine wp_name fun W hW => ?_
  have hR1 : Hid (Row W w1.heap.size [0, 0, pv, 0, 0, 0]) := Lib.hid (by rw [hW.out]; exact row6 (by first | (simp; done) | (simp; omega)) (fun o => by go_simp) (by go_simp) (by go_simp) (by go_simp) (by go_simp) (by go_simp) (by go_simp))
  have hR2 : Hid (Row W (w1.heap.size + 1) [0, 0, 0]) := Lib.hid (by rw [hW.out]; exact row3 (by first | (simp; done) | (simp; omega)) (fun o => by go_simp) (by go_simp) (by go_simp) (by go_simp))
  have hR3 : Hid (Row W (w1.heap.size + 2) [0, 0, 0]) := Lib.hid (by rw [hW.out]; exact row3 (by first | (simp; done) | (simp; omega)) (fun o => by go_simp) (by go_simp) (by go_simp) (by go_simp))
  have HB : Hid (Below w.heap.size w W) := Lib.hid (by rw [hW.out]; (repeat' (first | (with_reducible exact Below.refl _ _) | (with_reducible assumption) | (with_reducible refine below_drewN ?_ _) | (with_reducible refine Below.drew ?_) | (with_reducible refine below_new ?_ (Nat.le_refl _) _) | (with_reducible refine Below.setCell ?_ ?_ _) | (with_reducible refine below_go ?_ (by assumption) (Nat.le_refl _)) | (simp; done) | (simp; omega) | omega)))
  have hz1 := hb1.size
  clear hW hb1
  go_loopw [5, 6, 7, 8, 9, 10] (fun v1 v2 v3 vn va vi wr => ∃ (k g1 c1 g2 c2 g3 c3 : Nat) (x1 x2 x3 q1 q2 q3 r1 m : Int) (a : Bool), k ≤ n ∧ k ≤ 300 ∧ v1 = .slice (some ⟨g1, 0, none⟩) 6 c1 ∧ v2 = .slice (some ⟨g2, 0, none⟩) 3 c2 ∧ v3 = .slice (some ⟨g3, 0, none⟩) 3 c3 ∧ vn = .int .i64 m ∧ va = .bool a ∧ vi = .int .i64 k ∧ 0 ≤ m ∧ m ≤ k ∧
    Hid (Row wr g1 [x1, r1, pv, q1, m, oneB a]) ∧ Hid (Row wr g2 [x2, q2, oneB a]) ∧ Hid (Row wr g3 [x3, q3, oneB a]) ∧ (g1 ≠ g2 ∧ g1 ≠ g3 ∧ g2 ≠ g3) ∧ (w.heap.size ≤ g1 ∧ w.heap.size ≤ g2 ∧ w.heap.size ≤ g3) ∧ Hid (Below w.heap.size w wr)) (fun _ _ _ _ _ i _ => n - (intOf i).toNat)
  case atStart => exact ⟨0, _, 6, _, 3, _, 3, 0, 0, 0, 0, 0, 0, 0, 0, false, by omega, by omega, rfl, rfl, rfl, rfl, rfl, rfl, by omega, by omega, hR1, hR2, hR3, by omega, by omega, HB⟩
  case round =>
    clear hR1 hR2 hR3 HB
    obtain ⟨k, g1, c1, g2, c2, g3, c3, x1, x2, x3, q1, q2, q3, r1, m, a, hk, hk3, rfl, rfl, rfl, rfl, rfl, rfl, hm0, hmk, HR1, HR2, HR3, ⟨hn12, hn13, hn23⟩, ⟨hg1, hg2, hg3⟩, HB⟩ := hrel
    by_cases hlt : k < n
    · by_cases h300 : k < 300
      · obtain ⟨z, hz⟩ : ∃ z, zs[k]? = some z := ⟨zs[k]'(by rw [HLEN.out]; exact hlt), List.getElem?_eq_getElem _⟩
        obtain ⟨bb, off, rfl, hbl, hcell⟩ : ∃ b off, ad = some ⟨b, off, none⟩ ∧ b < w.heap.size ∧ ∀ (i : Nat) z, zs[i]? = some z → w.cell? ⟨b, off + i, none⟩ = some (.int .u8 z) := by
          rcases HC.out with h | h
          · omega
          · exact h
        have hzb := HBY.out z (List.mem_of_getElem? hz)
        have cz : wr.cell? ⟨bb, off + k, none⟩ = some (.int .u8 z) := (HB.out.cell (p := ⟨bb, off + k, none⟩) hbl).trans (hcell k z hz)
        have hzs := HB.out.size
        have hbr : bb < wr.heap.size := by omega
        have hk0 : (0 : Int) ≤ (k : Int) ∧ (k : Int) < (n : Int) ∧ (k : Int) < 300 := by omega
        clear hcell hz
        obtain ⟨hx1, hx2⟩ := and_u8 z hzb
        obtain ⟨s, hs⟩ : ∃ s, bits .and .u8 z 1 = s := ⟨_, rfl⟩
        obtain ⟨r, hr⟩ : ∃ r, bits .and .u8 z 2 = r := ⟨_, rfl⟩
        rw [hs] at hx1
        rw [hr] at hx2
        have hws : IntKind.i64.wrap s = s := IntWalk.i64_in _ (by omega)
        have hwr : IntKind.i64.wrap r = r := IntWalk.i64_in _ (by omega)
        have hwm : IntKind.i64.wrap (m + 1) = m + 1 := IntWalk.i64_in _ (by omega)
        go_upto_region 9 with (fail)
        refine wp_region_ext (by kernel_rfl) (by kernel_rfl) ?_
        repeat (go_big_quiet_step (fail))
        refine wpQuiet_nil ?_
        intro v8 hv8
        replace hv8 := ext_below hv8
        have cz8 := (hv8.cell (p := ⟨bb, off + k, none⟩) hbr).trans cz
        have hbr8 : bb < v8.heap.size := Nat.lt_of_lt_of_le hbr hv8.size
        go_upto_region 10 with (fail)
        refine wp_region_ext (by kernel_rfl) (by kernel_rfl) ?_
        repeat (go_big_quiet_step (fail))
        refine wpQuiet_nil ?_
        intro v9 hv9
        replace hv9 := ext_below hv9
        have hv := hv8.trans (hv9.mono hv8.size)
        have HR18 := Lib.hid (HR1.out.below hv)
        have HR28 := Lib.hid (HR2.out.below hv)
        have HR38 := Lib.hid (HR3.out.below hv)
        have HB8 := Lib.hid (HB.out.trans (hv.mono HB.out.size))
        clear HR1 HR2 HR3 HB cz hv hv8 hv9 hbr cz8 hbr8
        have c10 := HR18.out.cell 0 _ rfl
        have c11 := HR18.out.cell 1 _ rfl
        have c20 := HR28.out.cell 0 _ rfl
        have c30 := HR38.out.cell 0 _ rfl
        have f1 := HR18.out.free
        have f2 := HR28.out.free
        have f3 := HR38.out.free
        have l1 := HR18.out.lt
        have l2 := HR28.out.lt
        have l3 := HR38.out.lt
        have n12 : ¬ g1 = g2 := hn12
        have n13 : ¬ g1 = g3 := hn13
        have n23 : ¬ g2 = g3 := hn23
        have n21 : ¬ g2 = g1 := fun h => hn12 h.symm
        have n31 : ¬ g3 = g1 := fun h => hn13 h.symm
        have n32 : ¬ g3 = g2 := fun h => hn23 h.symm
        clear hs hr
        rcases hx1 with rfl | rfl <;> rcases hx2 with rfl | rfl <;> cases a
        · go_upto_region 16 with (fail)
          refine wp_name fun W16 hW16 => ?_
          have HA : Hid (Row W16 g1 [0, 0, pv, q1, m, oneB false]) := Lib.hid (by rw [hW16.out]; exact ((((HR18.out.set 0 0).set 1 0).other n21 _ _).other n31 _ _))
          have HD : Hid (Row W16 g2 [0, q2, oneB false]) := Lib.hid (by rw [hW16.out]; exact ((((HR28.out.other n12 _ _).other n12 _ _).set 0 0).other n32 _ _))
          have HE : Hid (Row W16 g3 [0, q3, oneB false]) := Lib.hid (by rw [hW16.out]; exact ((((HR38.out.other n13 _ _).other n13 _ _).other n23 _ _).set 0 0))
          have HBA : Hid (Below w.heap.size w W16) := Lib.hid (by rw [hW16.out]; have := HB8.out; (repeat' (first | (with_reducible exact Below.refl _ _) | (with_reducible assumption) | (with_reducible refine below_drewN ?_ _) | (with_reducible refine Below.drew ?_) | (with_reducible refine below_new ?_ (Nat.le_refl _) _) | (with_reducible refine Below.setCell ?_ ?_ _) | (with_reducible refine below_go ?_ (by assumption) (Nat.le_refl _)) | (simp; done) | (simp; omega) | omega)))
          clear hW16 HR18 HR28 HR38 HB8 c10 c11 c20 c30 f1 f2 f3 l1 l2 l3
          go_wp2_with fail
          refine (ctu_step 0 0 (oneB false) pv q1 m (by decide) (by decide) (by decide) (by omega) g1 c1 W16 HA.out (HT.out.on HBA.out)).mono ?_
          rintro e w3 ⟨g4, c4, rfl, hg4, hr4, hb4⟩
          have HA4 : Hid (Row w3 g4 [0, 0, pv, ctQ (m) pv, m, 0]) := Lib.hid hr4
          have HD4 := Lib.hid (HD.out.below hb4)
          have HE4 := Lib.hid (HE.out.below hb4)
          have HB4 := Lib.hid (HBA.out.trans (hb4.mono HBA.out.size))
          have hz16 := HBA.out.size
          clear hr4 HA HD HE HBA hb4
          go_wp2_with fail
          refine (up_step 0 q2 (oneB false) (by decide) (by decide) g2 c2 w3 HD4.out (HT.out.on HB4.out)).mono ?_
          rintro e w5 ⟨g5, c5, rfl, hg5, hr5, hb5⟩
          have HA5 := Lib.hid (HA4.out.below hb5)
          have HD5 : Hid (Row w5 g5 [0, 0, 0]) := Lib.hid hr5
          have HE5 := Lib.hid (HE4.out.below hb5)
          have HB5 := Lib.hid (HB4.out.trans (hb5.mono HB4.out.size))
          have hl4 := HA4.out.lt
          have hz3 := HB4.out.size
          clear hr5 HA4 HD4 HE4 HB4 hb5
          go_wp2_with fail
          refine (dn_step 0 q3 (oneB false) (by decide) (by decide) g3 c3 w5 HE5.out (HT.out.on HB5.out)).mono ?_
          rintro e w6 ⟨g6, c6, rfl, hg6, hr6, hb6⟩
          have HA6 := Lib.hid (HA5.out.below hb6)
          have HD6 := Lib.hid (HD5.out.below hb6)
          have HE6 : Hid (Row w6 g6 [0, 0, 0]) := Lib.hid hr6
          have HB6 := Lib.hid (HB5.out.trans (hb6.mono HB5.out.size))
          have hl5 := HD5.out.lt
          have hl4' := HA5.out.lt
          have hz5 := HB5.out.size
          clear hr6 HA5 HD5 HE5 HB5 hb6
          have d3 := HA6.out.cell 3 _ rfl
          have d4 := HA6.out.cell 4 _ rfl
          have e1 := HD6.out.cell 1 _ rfl
          have i1 := HE6.out.cell 1 _ rfl
          have hgs : (g4 ≠ g5 ∧ g4 ≠ g6 ∧ g5 ≠ g6) ∧ (w.heap.size ≤ g4 ∧ w.heap.size ≤ g5 ∧ w.heap.size ≤ g6) := by omega
          have hq : (ctQ (m) pv != 0) = decide (pv ≤ m) := by unfold ctQ; cases decide (pv ≤ m) <;> rfl
          go_wp2
          go_roundw
          case rel => exact ⟨k + 1, g4, c4, g5, c5, g6, c6, 0, 0, 0, ctQ (m) pv, 0, 0, 0, m, false, by omega, by omega, rfl, rfl, rfl, by first | rfl | go_num, rfl, by go_num, by omega, by omega, HA6, HD6, HE6, hgs.1, hgs.2, HB6⟩
          case measure => simp [intOf]; omega
        · go_upto_region 16 with (fail)
          refine wp_name fun W16 hW16 => ?_
          have HA : Hid (Row W16 g1 [0, 0, pv, q1, m, oneB true]) := Lib.hid (by rw [hW16.out]; exact ((((HR18.out.set 0 0).set 1 0).other n21 _ _).other n31 _ _))
          have HD : Hid (Row W16 g2 [0, q2, oneB true]) := Lib.hid (by rw [hW16.out]; exact ((((HR28.out.other n12 _ _).other n12 _ _).set 0 0).other n32 _ _))
          have HE : Hid (Row W16 g3 [0, q3, oneB true]) := Lib.hid (by rw [hW16.out]; exact ((((HR38.out.other n13 _ _).other n13 _ _).other n23 _ _).set 0 0))
          have HBA : Hid (Below w.heap.size w W16) := Lib.hid (by rw [hW16.out]; have := HB8.out; (repeat' (first | (with_reducible exact Below.refl _ _) | (with_reducible assumption) | (with_reducible refine below_drewN ?_ _) | (with_reducible refine Below.drew ?_) | (with_reducible refine below_new ?_ (Nat.le_refl _) _) | (with_reducible refine Below.setCell ?_ ?_ _) | (with_reducible refine below_go ?_ (by assumption) (Nat.le_refl _)) | (simp; done) | (simp; omega) | omega)))
          clear hW16 HR18 HR28 HR38 HB8 c10 c11 c20 c30 f1 f2 f3 l1 l2 l3
          go_wp2_with fail
          refine (ctu_step 0 0 (oneB true) pv q1 m (by decide) (by decide) (by decide) (by omega) g1 c1 W16 HA.out (HT.out.on HBA.out)).mono ?_
          rintro e w3 ⟨g4, c4, rfl, hg4, hr4, hb4⟩
          have HA4 : Hid (Row w3 g4 [0, 0, pv, ctQ (m) pv, m, 0]) := Lib.hid hr4
          have HD4 := Lib.hid (HD.out.below hb4)
          have HE4 := Lib.hid (HE.out.below hb4)
          have HB4 := Lib.hid (HBA.out.trans (hb4.mono HBA.out.size))
          have hz16 := HBA.out.size
          clear hr4 HA HD HE HBA hb4
          go_wp2_with fail
          refine (up_step 0 q2 (oneB true) (by decide) (by decide) g2 c2 w3 HD4.out (HT.out.on HB4.out)).mono ?_
          rintro e w5 ⟨g5, c5, rfl, hg5, hr5, hb5⟩
          have HA5 := Lib.hid (HA4.out.below hb5)
          have HD5 : Hid (Row w5 g5 [0, 0, 0]) := Lib.hid hr5
          have HE5 := Lib.hid (HE4.out.below hb5)
          have HB5 := Lib.hid (HB4.out.trans (hb5.mono HB4.out.size))
          have hl4 := HA4.out.lt
          have hz3 := HB4.out.size
          clear hr5 HA4 HD4 HE4 HB4 hb5
          go_wp2_with fail
          refine (dn_step 0 q3 (oneB true) (by decide) (by decide) g3 c3 w5 HE5.out (HT.out.on HB5.out)).mono ?_
          rintro e w6 ⟨g6, c6, rfl, hg6, hr6, hb6⟩
          have HA6 := Lib.hid (HA5.out.below hb6)
          have HD6 := Lib.hid (HD5.out.below hb6)
          have HE6 : Hid (Row w6 g6 [0, 1, 0]) := Lib.hid hr6
          have HB6 := Lib.hid (HB5.out.trans (hb6.mono HB5.out.size))
          have hl5 := HD5.out.lt
          have hl4' := HA5.out.lt
          have hz5 := HB5.out.size
          clear hr6 HA5 HD5 HE5 HB5 hb6
          have d3 := HA6.out.cell 3 _ rfl
          have d4 := HA6.out.cell 4 _ rfl
          have e1 := HD6.out.cell 1 _ rfl
          have i1 := HE6.out.cell 1 _ rfl
          have hgs : (g4 ≠ g5 ∧ g4 ≠ g6 ∧ g5 ≠ g6) ∧ (w.heap.size ≤ g4 ∧ w.heap.size ≤ g5 ∧ w.heap.size ≤ g6) := by omega
          have hq : (ctQ (m) pv != 0) = decide (pv ≤ m) := by unfold ctQ; cases decide (pv ≤ m) <;> rfl
          go_wp2
          go_roundw
          case rel => exact ⟨k + 1, g4, c4, g5, c5, g6, c6, 0, 0, 0, ctQ (m) pv, 0, 1, 0, m, false, by omega, by omega, rfl, rfl, rfl, by first | rfl | go_num, rfl, by go_num, by omega, by omega, HA6, HD6, HE6, hgs.1, hgs.2, HB6⟩
          case measure => simp [intOf]; omega
        · go_upto_region 16 with (fail)
          refine wp_name fun W16 hW16 => ?_
          have HA : Hid (Row W16 g1 [0, 2, pv, q1, m, oneB false]) := Lib.hid (by rw [hW16.out]; exact ((((HR18.out.set 0 0).set 1 2).other n21 _ _).other n31 _ _))
          have HD : Hid (Row W16 g2 [0, q2, oneB false]) := Lib.hid (by rw [hW16.out]; exact ((((HR28.out.other n12 _ _).other n12 _ _).set 0 0).other n32 _ _))
          have HE : Hid (Row W16 g3 [0, q3, oneB false]) := Lib.hid (by rw [hW16.out]; exact ((((HR38.out.other n13 _ _).other n13 _ _).other n23 _ _).set 0 0))
          have HBA : Hid (Below w.heap.size w W16) := Lib.hid (by rw [hW16.out]; have := HB8.out; (repeat' (first | (with_reducible exact Below.refl _ _) | (with_reducible assumption) | (with_reducible refine below_drewN ?_ _) | (with_reducible refine Below.drew ?_) | (with_reducible refine below_new ?_ (Nat.le_refl _) _) | (with_reducible refine Below.setCell ?_ ?_ _) | (with_reducible refine below_go ?_ (by assumption) (Nat.le_refl _)) | (simp; done) | (simp; omega) | omega)))
          clear hW16 HR18 HR28 HR38 HB8 c10 c11 c20 c30 f1 f2 f3 l1 l2 l3
          go_wp2_with fail
          refine (ctu_step 0 2 (oneB false) pv q1 m (by decide) (by decide) (by decide) (by omega) g1 c1 W16 HA.out (HT.out.on HBA.out)).mono ?_
          rintro e w3 ⟨g4, c4, rfl, hg4, hr4, hb4⟩
          have HA4 : Hid (Row w3 g4 [0, 2, pv, ctQ (0) pv, 0, 0]) := Lib.hid hr4
          have HD4 := Lib.hid (HD.out.below hb4)
          have HE4 := Lib.hid (HE.out.below hb4)
          have HB4 := Lib.hid (HBA.out.trans (hb4.mono HBA.out.size))
          have hz16 := HBA.out.size
          clear hr4 HA HD HE HBA hb4
          go_wp2_with fail
          refine (up_step 0 q2 (oneB false) (by decide) (by decide) g2 c2 w3 HD4.out (HT.out.on HB4.out)).mono ?_
          rintro e w5 ⟨g5, c5, rfl, hg5, hr5, hb5⟩
          have HA5 := Lib.hid (HA4.out.below hb5)
          have HD5 : Hid (Row w5 g5 [0, 0, 0]) := Lib.hid hr5
          have HE5 := Lib.hid (HE4.out.below hb5)
          have HB5 := Lib.hid (HB4.out.trans (hb5.mono HB4.out.size))
          have hl4 := HA4.out.lt
          have hz3 := HB4.out.size
          clear hr5 HA4 HD4 HE4 HB4 hb5
          go_wp2_with fail
          refine (dn_step 0 q3 (oneB false) (by decide) (by decide) g3 c3 w5 HE5.out (HT.out.on HB5.out)).mono ?_
          rintro e w6 ⟨g6, c6, rfl, hg6, hr6, hb6⟩
          have HA6 := Lib.hid (HA5.out.below hb6)
          have HD6 := Lib.hid (HD5.out.below hb6)
          have HE6 : Hid (Row w6 g6 [0, 0, 0]) := Lib.hid hr6
          have HB6 := Lib.hid (HB5.out.trans (hb6.mono HB5.out.size))
          have hl5 := HD5.out.lt
          have hl4' := HA5.out.lt
          have hz5 := HB5.out.size
          clear hr6 HA5 HD5 HE5 HB5 hb6
          have d3 := HA6.out.cell 3 _ rfl
          have d4 := HA6.out.cell 4 _ rfl
          have e1 := HD6.out.cell 1 _ rfl
          have i1 := HE6.out.cell 1 _ rfl
          have hgs : (g4 ≠ g5 ∧ g4 ≠ g6 ∧ g5 ≠ g6) ∧ (w.heap.size ≤ g4 ∧ w.heap.size ≤ g5 ∧ w.heap.size ≤ g6) := by omega
          have hq : (ctQ (0) pv != 0) = decide (pv ≤ 0) := by unfold ctQ; cases decide (pv ≤ 0) <;> rfl
          go_wp2
          go_roundw
          case rel => exact ⟨k + 1, g4, c4, g5, c5, g6, c6, 0, 0, 0, ctQ (0) pv, 0, 0, 2, 0, false, by omega, by omega, rfl, rfl, rfl, by first | rfl | go_num, rfl, by go_num, by omega, by omega, HA6, HD6, HE6, hgs.1, hgs.2, HB6⟩
          case measure => simp [intOf]; omega
        · go_upto_region 16 with (fail)
          refine wp_name fun W16 hW16 => ?_
          have HA : Hid (Row W16 g1 [0, 2, pv, q1, m, oneB true]) := Lib.hid (by rw [hW16.out]; exact ((((HR18.out.set 0 0).set 1 2).other n21 _ _).other n31 _ _))
          have HD : Hid (Row W16 g2 [0, q2, oneB true]) := Lib.hid (by rw [hW16.out]; exact ((((HR28.out.other n12 _ _).other n12 _ _).set 0 0).other n32 _ _))
          have HE : Hid (Row W16 g3 [0, q3, oneB true]) := Lib.hid (by rw [hW16.out]; exact ((((HR38.out.other n13 _ _).other n13 _ _).other n23 _ _).set 0 0))
          have HBA : Hid (Below w.heap.size w W16) := Lib.hid (by rw [hW16.out]; have := HB8.out; (repeat' (first | (with_reducible exact Below.refl _ _) | (with_reducible assumption) | (with_reducible refine below_drewN ?_ _) | (with_reducible refine Below.drew ?_) | (with_reducible refine below_new ?_ (Nat.le_refl _) _) | (with_reducible refine Below.setCell ?_ ?_ _) | (with_reducible refine below_go ?_ (by assumption) (Nat.le_refl _)) | (simp; done) | (simp; omega) | omega)))
          clear hW16 HR18 HR28 HR38 HB8 c10 c11 c20 c30 f1 f2 f3 l1 l2 l3
          go_wp2_with fail
          refine (ctu_step 0 2 (oneB true) pv q1 m (by decide) (by decide) (by decide) (by omega) g1 c1 W16 HA.out (HT.out.on HBA.out)).mono ?_
          rintro e w3 ⟨g4, c4, rfl, hg4, hr4, hb4⟩
          have HA4 : Hid (Row w3 g4 [0, 2, pv, ctQ (0) pv, 0, 0]) := Lib.hid hr4
          have HD4 := Lib.hid (HD.out.below hb4)
          have HE4 := Lib.hid (HE.out.below hb4)
          have HB4 := Lib.hid (HBA.out.trans (hb4.mono HBA.out.size))
          have hz16 := HBA.out.size
          clear hr4 HA HD HE HBA hb4
          go_wp2_with fail
          refine (up_step 0 q2 (oneB true) (by decide) (by decide) g2 c2 w3 HD4.out (HT.out.on HB4.out)).mono ?_
          rintro e w5 ⟨g5, c5, rfl, hg5, hr5, hb5⟩
          have HA5 := Lib.hid (HA4.out.below hb5)
          have HD5 : Hid (Row w5 g5 [0, 0, 0]) := Lib.hid hr5
          have HE5 := Lib.hid (HE4.out.below hb5)
          have HB5 := Lib.hid (HB4.out.trans (hb5.mono HB4.out.size))
          have hl4 := HA4.out.lt
          have hz3 := HB4.out.size
          clear hr5 HA4 HD4 HE4 HB4 hb5
          go_wp2_with fail
          refine (dn_step 0 q3 (oneB true) (by decide) (by decide) g3 c3 w5 HE5.out (HT.out.on HB5.out)).mono ?_
          rintro e w6 ⟨g6, c6, rfl, hg6, hr6, hb6⟩
          have HA6 := Lib.hid (HA5.out.below hb6)
          have HD6 := Lib.hid (HD5.out.below hb6)
          have HE6 : Hid (Row w6 g6 [0, 1, 0]) := Lib.hid hr6
          have HB6 := Lib.hid (HB5.out.trans (hb6.mono HB5.out.size))
          have hl5 := HD5.out.lt
          have hl4' := HA5.out.lt
          have hz5 := HB5.out.size
          clear hr6 HA5 HD5 HE5 HB5 hb6
          have d3 := HA6.out.cell 3 _ rfl
          have d4 := HA6.out.cell 4 _ rfl
          have e1 := HD6.out.cell 1 _ rfl
          have i1 := HE6.out.cell 1 _ rfl
          have hgs : (g4 ≠ g5 ∧ g4 ≠ g6 ∧ g5 ≠ g6) ∧ (w.heap.size ≤ g4 ∧ w.heap.size ≤ g5 ∧ w.heap.size ≤ g6) := by omega
          have hq : (ctQ (0) pv != 0) = decide (pv ≤ 0) := by unfold ctQ; cases decide (pv ≤ 0) <;> rfl
          go_wp2
          go_roundw
          case rel => exact ⟨k + 1, g4, c4, g5, c5, g6, c6, 0, 0, 0, ctQ (0) pv, 0, 1, 2, 0, false, by omega, by omega, rfl, rfl, rfl, by first | rfl | go_num, rfl, by go_num, by omega, by omega, HA6, HD6, HE6, hgs.1, hgs.2, HB6⟩
          case measure => simp [intOf]; omega
        · go_upto_region 16 with (fail)
          refine wp_name fun W16 hW16 => ?_
          have HA : Hid (Row W16 g1 [1, 0, pv, q1, m, oneB false]) := Lib.hid (by rw [hW16.out]; exact ((((HR18.out.set 0 1).set 1 0).other n21 _ _).other n31 _ _))
          have HD : Hid (Row W16 g2 [1, q2, oneB false]) := Lib.hid (by rw [hW16.out]; exact ((((HR28.out.other n12 _ _).other n12 _ _).set 0 1).other n32 _ _))
          have HE : Hid (Row W16 g3 [1, q3, oneB false]) := Lib.hid (by rw [hW16.out]; exact ((((HR38.out.other n13 _ _).other n13 _ _).other n23 _ _).set 0 1))
          have HBA : Hid (Below w.heap.size w W16) := Lib.hid (by rw [hW16.out]; have := HB8.out; (repeat' (first | (with_reducible exact Below.refl _ _) | (with_reducible assumption) | (with_reducible refine below_drewN ?_ _) | (with_reducible refine Below.drew ?_) | (with_reducible refine below_new ?_ (Nat.le_refl _) _) | (with_reducible refine Below.setCell ?_ ?_ _) | (with_reducible refine below_go ?_ (by assumption) (Nat.le_refl _)) | (simp; done) | (simp; omega) | omega)))
          clear hW16 HR18 HR28 HR38 HB8 c10 c11 c20 c30 f1 f2 f3 l1 l2 l3
          go_wp2_with fail
          refine (ctu_step 1 0 (oneB false) pv q1 m (by decide) (by decide) (by decide) (by omega) g1 c1 W16 HA.out (HT.out.on HBA.out)).mono ?_
          rintro e w3 ⟨g4, c4, rfl, hg4, hr4, hb4⟩
          have HA4 : Hid (Row w3 g4 [1, 0, pv, ctQ (m + 1) pv, m + 1, 1]) := Lib.hid hr4
          have HD4 := Lib.hid (HD.out.below hb4)
          have HE4 := Lib.hid (HE.out.below hb4)
          have HB4 := Lib.hid (HBA.out.trans (hb4.mono HBA.out.size))
          have hz16 := HBA.out.size
          clear hr4 HA HD HE HBA hb4
          go_wp2_with fail
          refine (up_step 1 q2 (oneB false) (by decide) (by decide) g2 c2 w3 HD4.out (HT.out.on HB4.out)).mono ?_
          rintro e w5 ⟨g5, c5, rfl, hg5, hr5, hb5⟩
          have HA5 := Lib.hid (HA4.out.below hb5)
          have HD5 : Hid (Row w5 g5 [1, 1, 1]) := Lib.hid hr5
          have HE5 := Lib.hid (HE4.out.below hb5)
          have HB5 := Lib.hid (HB4.out.trans (hb5.mono HB4.out.size))
          have hl4 := HA4.out.lt
          have hz3 := HB4.out.size
          clear hr5 HA4 HD4 HE4 HB4 hb5
          go_wp2_with fail
          refine (dn_step 1 q3 (oneB false) (by decide) (by decide) g3 c3 w5 HE5.out (HT.out.on HB5.out)).mono ?_
          rintro e w6 ⟨g6, c6, rfl, hg6, hr6, hb6⟩
          have HA6 := Lib.hid (HA5.out.below hb6)
          have HD6 := Lib.hid (HD5.out.below hb6)
          have HE6 : Hid (Row w6 g6 [1, 0, 1]) := Lib.hid hr6
          have HB6 := Lib.hid (HB5.out.trans (hb6.mono HB5.out.size))
          have hl5 := HD5.out.lt
          have hl4' := HA5.out.lt
          have hz5 := HB5.out.size
          clear hr6 HA5 HD5 HE5 HB5 hb6
          have d3 := HA6.out.cell 3 _ rfl
          have d4 := HA6.out.cell 4 _ rfl
          have e1 := HD6.out.cell 1 _ rfl
          have i1 := HE6.out.cell 1 _ rfl
          have hgs : (g4 ≠ g5 ∧ g4 ≠ g6 ∧ g5 ≠ g6) ∧ (w.heap.size ≤ g4 ∧ w.heap.size ≤ g5 ∧ w.heap.size ≤ g6) := by omega
          have hq : (ctQ (m + 1) pv != 0) = decide (pv ≤ m + 1) := by unfold ctQ; cases decide (pv ≤ m + 1) <;> rfl
          go_wp2
          go_roundw
          case rel => exact ⟨k + 1, g4, c4, g5, c5, g6, c6, 1, 1, 1, ctQ (m + 1) pv, 1, 0, 0, m + 1, true, by omega, by omega, rfl, rfl, rfl, by first | rfl | go_num, rfl, by go_num, by omega, by omega, HA6, HD6, HE6, hgs.1, hgs.2, HB6⟩
          case measure => simp [intOf]; omega
        · go_upto_region 16 with (fail)
          refine wp_name fun W16 hW16 => ?_
          have HA : Hid (Row W16 g1 [1, 0, pv, q1, m, oneB true]) := Lib.hid (by rw [hW16.out]; exact ((((HR18.out.set 0 1).set 1 0).other n21 _ _).other n31 _ _))
          have HD : Hid (Row W16 g2 [1, q2, oneB true]) := Lib.hid (by rw [hW16.out]; exact ((((HR28.out.other n12 _ _).other n12 _ _).set 0 1).other n32 _ _))
          have HE : Hid (Row W16 g3 [1, q3, oneB true]) := Lib.hid (by rw [hW16.out]; exact ((((HR38.out.other n13 _ _).other n13 _ _).other n23 _ _).set 0 1))
          have HBA : Hid (Below w.heap.size w W16) := Lib.hid (by rw [hW16.out]; have := HB8.out; (repeat' (first | (with_reducible exact Below.refl _ _) | (with_reducible assumption) | (with_reducible refine below_drewN ?_ _) | (with_reducible refine Below.drew ?_) | (with_reducible refine below_new ?_ (Nat.le_refl _) _) | (with_reducible refine Below.setCell ?_ ?_ _) | (with_reducible refine below_go ?_ (by assumption) (Nat.le_refl _)) | (simp; done) | (simp; omega) | omega)))
          clear hW16 HR18 HR28 HR38 HB8 c10 c11 c20 c30 f1 f2 f3 l1 l2 l3
          go_wp2_with fail
          refine (ctu_step 1 0 (oneB true) pv q1 m (by decide) (by decide) (by decide) (by omega) g1 c1 W16 HA.out (HT.out.on HBA.out)).mono ?_
          rintro e w3 ⟨g4, c4, rfl, hg4, hr4, hb4⟩
          have HA4 : Hid (Row w3 g4 [1, 0, pv, ctQ (m) pv, m, 1]) := Lib.hid hr4
          have HD4 := Lib.hid (HD.out.below hb4)
          have HE4 := Lib.hid (HE.out.below hb4)
          have HB4 := Lib.hid (HBA.out.trans (hb4.mono HBA.out.size))
          have hz16 := HBA.out.size
          clear hr4 HA HD HE HBA hb4
          go_wp2_with fail
          refine (up_step 1 q2 (oneB true) (by decide) (by decide) g2 c2 w3 HD4.out (HT.out.on HB4.out)).mono ?_
          rintro e w5 ⟨g5, c5, rfl, hg5, hr5, hb5⟩
          have HA5 := Lib.hid (HA4.out.below hb5)
          have HD5 : Hid (Row w5 g5 [1, 0, 1]) := Lib.hid hr5
          have HE5 := Lib.hid (HE4.out.below hb5)
          have HB5 := Lib.hid (HB4.out.trans (hb5.mono HB4.out.size))
          have hl4 := HA4.out.lt
          have hz3 := HB4.out.size
          clear hr5 HA4 HD4 HE4 HB4 hb5
          go_wp2_with fail
          refine (dn_step 1 q3 (oneB true) (by decide) (by decide) g3 c3 w5 HE5.out (HT.out.on HB5.out)).mono ?_
          rintro e w6 ⟨g6, c6, rfl, hg6, hr6, hb6⟩
          have HA6 := Lib.hid (HA5.out.below hb6)
          have HD6 := Lib.hid (HD5.out.below hb6)
          have HE6 : Hid (Row w6 g6 [1, 0, 1]) := Lib.hid hr6
          have HB6 := Lib.hid (HB5.out.trans (hb6.mono HB5.out.size))
          have hl5 := HD5.out.lt
          have hl4' := HA5.out.lt
          have hz5 := HB5.out.size
          clear hr6 HA5 HD5 HE5 HB5 hb6
          have d3 := HA6.out.cell 3 _ rfl
          have d4 := HA6.out.cell 4 _ rfl
          have e1 := HD6.out.cell 1 _ rfl
          have i1 := HE6.out.cell 1 _ rfl
          have hgs : (g4 ≠ g5 ∧ g4 ≠ g6 ∧ g5 ≠ g6) ∧ (w.heap.size ≤ g4 ∧ w.heap.size ≤ g5 ∧ w.heap.size ≤ g6) := by omega
          have hq : (ctQ (m) pv != 0) = decide (pv ≤ m) := by unfold ctQ; cases decide (pv ≤ m) <;> rfl
          go_wp2
          go_roundw
          case rel => exact ⟨k + 1, g4, c4, g5, c5, g6, c6, 1, 1, 1, ctQ (m) pv, 0, 0, 0, m, true, by omega, by omega, rfl, rfl, rfl, by first | rfl | go_num, rfl, by go_num, by omega, by omega, HA6, HD6, HE6, hgs.1, hgs.2, HB6⟩
          case measure => simp [intOf]; omega
        · go_upto_region 16 with (fail)
          refine wp_name fun W16 hW16 => ?_
          have HA : Hid (Row W16 g1 [1, 2, pv, q1, m, oneB false]) := Lib.hid (by rw [hW16.out]; exact ((((HR18.out.set 0 1).set 1 2).other n21 _ _).other n31 _ _))
          have HD : Hid (Row W16 g2 [1, q2, oneB false]) := Lib.hid (by rw [hW16.out]; exact ((((HR28.out.other n12 _ _).other n12 _ _).set 0 1).other n32 _ _))
          have HE : Hid (Row W16 g3 [1, q3, oneB false]) := Lib.hid (by rw [hW16.out]; exact ((((HR38.out.other n13 _ _).other n13 _ _).other n23 _ _).set 0 1))
          have HBA : Hid (Below w.heap.size w W16) := Lib.hid (by rw [hW16.out]; have := HB8.out; (repeat' (first | (with_reducible exact Below.refl _ _) | (with_reducible assumption) | (with_reducible refine below_drewN ?_ _) | (with_reducible refine Below.drew ?_) | (with_reducible refine below_new ?_ (Nat.le_refl _) _) | (with_reducible refine Below.setCell ?_ ?_ _) | (with_reducible refine below_go ?_ (by assumption) (Nat.le_refl _)) | (simp; done) | (simp; omega) | omega)))
          clear hW16 HR18 HR28 HR38 HB8 c10 c11 c20 c30 f1 f2 f3 l1 l2 l3
          go_wp2_with fail
          refine (ctu_step 1 2 (oneB false) pv q1 m (by decide) (by decide) (by decide) (by omega) g1 c1 W16 HA.out (HT.out.on HBA.out)).mono ?_
          rintro e w3 ⟨g4, c4, rfl, hg4, hr4, hb4⟩
          have HA4 : Hid (Row w3 g4 [1, 2, pv, ctQ (0) pv, 0, 1]) := Lib.hid hr4
          have HD4 := Lib.hid (HD.out.below hb4)
          have HE4 := Lib.hid (HE.out.below hb4)
          have HB4 := Lib.hid (HBA.out.trans (hb4.mono HBA.out.size))
          have hz16 := HBA.out.size
          clear hr4 HA HD HE HBA hb4
          go_wp2_with fail
          refine (up_step 1 q2 (oneB false) (by decide) (by decide) g2 c2 w3 HD4.out (HT.out.on HB4.out)).mono ?_
          rintro e w5 ⟨g5, c5, rfl, hg5, hr5, hb5⟩
          have HA5 := Lib.hid (HA4.out.below hb5)
          have HD5 : Hid (Row w5 g5 [1, 1, 1]) := Lib.hid hr5
          have HE5 := Lib.hid (HE4.out.below hb5)
          have HB5 := Lib.hid (HB4.out.trans (hb5.mono HB4.out.size))
          have hl4 := HA4.out.lt
          have hz3 := HB4.out.size
          clear hr5 HA4 HD4 HE4 HB4 hb5
          go_wp2_with fail
          refine (dn_step 1 q3 (oneB false) (by decide) (by decide) g3 c3 w5 HE5.out (HT.out.on HB5.out)).mono ?_
          rintro e w6 ⟨g6, c6, rfl, hg6, hr6, hb6⟩
          have HA6 := Lib.hid (HA5.out.below hb6)
          have HD6 := Lib.hid (HD5.out.below hb6)
          have HE6 : Hid (Row w6 g6 [1, 0, 1]) := Lib.hid hr6
          have HB6 := Lib.hid (HB5.out.trans (hb6.mono HB5.out.size))
          have hl5 := HD5.out.lt
          have hl4' := HA5.out.lt
          have hz5 := HB5.out.size
          clear hr6 HA5 HD5 HE5 HB5 hb6
          have d3 := HA6.out.cell 3 _ rfl
          have d4 := HA6.out.cell 4 _ rfl
          have e1 := HD6.out.cell 1 _ rfl
          have i1 := HE6.out.cell 1 _ rfl
          have hgs : (g4 ≠ g5 ∧ g4 ≠ g6 ∧ g5 ≠ g6) ∧ (w.heap.size ≤ g4 ∧ w.heap.size ≤ g5 ∧ w.heap.size ≤ g6) := by omega
          have hq : (ctQ (0) pv != 0) = decide (pv ≤ 0) := by unfold ctQ; cases decide (pv ≤ 0) <;> rfl
          go_wp2
          go_roundw
          case rel => exact ⟨k + 1, g4, c4, g5, c5, g6, c6, 1, 1, 1, ctQ (0) pv, 1, 0, 2, 0, true, by omega, by omega, rfl, rfl, rfl, by first | rfl | go_num, rfl, by go_num, by omega, by omega, HA6, HD6, HE6, hgs.1, hgs.2, HB6⟩
          case measure => simp [intOf]; omega
        · go_upto_region 16 with (fail)
          refine wp_name fun W16 hW16 => ?_
          have HA : Hid (Row W16 g1 [1, 2, pv, q1, m, oneB true]) := Lib.hid (by rw [hW16.out]; exact ((((HR18.out.set 0 1).set 1 2).other n21 _ _).other n31 _ _))
          have HD : Hid (Row W16 g2 [1, q2, oneB true]) := Lib.hid (by rw [hW16.out]; exact ((((HR28.out.other n12 _ _).other n12 _ _).set 0 1).other n32 _ _))
          have HE : Hid (Row W16 g3 [1, q3, oneB true]) := Lib.hid (by rw [hW16.out]; exact ((((HR38.out.other n13 _ _).other n13 _ _).other n23 _ _).set 0 1))
          have HBA : Hid (Below w.heap.size w W16) := Lib.hid (by rw [hW16.out]; have := HB8.out; (repeat' (first | (with_reducible exact Below.refl _ _) | (with_reducible assumption) | (with_reducible refine below_drewN ?_ _) | (with_reducible refine Below.drew ?_) | (with_reducible refine below_new ?_ (Nat.le_refl _) _) | (with_reducible refine Below.setCell ?_ ?_ _) | (with_reducible refine below_go ?_ (by assumption) (Nat.le_refl _)) | (simp; done) | (simp; omega) | omega)))
          clear hW16 HR18 HR28 HR38 HB8 c10 c11 c20 c30 f1 f2 f3 l1 l2 l3
          go_wp2_with fail
          refine (ctu_step 1 2 (oneB true) pv q1 m (by decide) (by decide) (by decide) (by omega) g1 c1 W16 HA.out (HT.out.on HBA.out)).mono ?_
          rintro e w3 ⟨g4, c4, rfl, hg4, hr4, hb4⟩
          have HA4 : Hid (Row w3 g4 [1, 2, pv, ctQ (0) pv, 0, 1]) := Lib.hid hr4
          have HD4 := Lib.hid (HD.out.below hb4)
          have HE4 := Lib.hid (HE.out.below hb4)
          have HB4 := Lib.hid (HBA.out.trans (hb4.mono HBA.out.size))
          have hz16 := HBA.out.size
          clear hr4 HA HD HE HBA hb4
          go_wp2_with fail
          refine (up_step 1 q2 (oneB true) (by decide) (by decide) g2 c2 w3 HD4.out (HT.out.on HB4.out)).mono ?_
          rintro e w5 ⟨g5, c5, rfl, hg5, hr5, hb5⟩
          have HA5 := Lib.hid (HA4.out.below hb5)
          have HD5 : Hid (Row w5 g5 [1, 0, 1]) := Lib.hid hr5
          have HE5 := Lib.hid (HE4.out.below hb5)
          have HB5 := Lib.hid (HB4.out.trans (hb5.mono HB4.out.size))
          have hl4 := HA4.out.lt
          have hz3 := HB4.out.size
          clear hr5 HA4 HD4 HE4 HB4 hb5
          go_wp2_with fail
          refine (dn_step 1 q3 (oneB true) (by decide) (by decide) g3 c3 w5 HE5.out (HT.out.on HB5.out)).mono ?_
          rintro e w6 ⟨g6, c6, rfl, hg6, hr6, hb6⟩
          have HA6 := Lib.hid (HA5.out.below hb6)
          have HD6 := Lib.hid (HD5.out.below hb6)
          have HE6 : Hid (Row w6 g6 [1, 0, 1]) := Lib.hid hr6
          have HB6 := Lib.hid (HB5.out.trans (hb6.mono HB5.out.size))
          have hl5 := HD5.out.lt
          have hl4' := HA5.out.lt
          have hz5 := HB5.out.size
          clear hr6 HA5 HD5 HE5 HB5 hb6
          have d3 := HA6.out.cell 3 _ rfl
          have d4 := HA6.out.cell 4 _ rfl
          have e1 := HD6.out.cell 1 _ rfl
          have i1 := HE6.out.cell 1 _ rfl
          have hgs : (g4 ≠ g5 ∧ g4 ≠ g6 ∧ g5 ≠ g6) ∧ (w.heap.size ≤ g4 ∧ w.heap.size ≤ g5 ∧ w.heap.size ≤ g6) := by omega
          have hq : (ctQ (0) pv != 0) = decide (pv ≤ 0) := by unfold ctQ; cases decide (pv ≤ 0) <;> rfl
          go_wp2
          go_roundw
          case rel => exact ⟨k + 1, g4, c4, g5, c5, g6, c6, 1, 1, 1, ctQ (0) pv, 0, 0, 2, 0, true, by omega, by omega, rfl, rfl, rfl, by first | rfl | go_num, rfl, by go_num, by omega, by omega, HA6, HD6, HE6, hgs.1, hgs.2, HB6⟩
          case measure => simp [intOf]; omega
      · go_wp2
        go_ret
        exact ⟨rfl, HB.out⟩
    · go_wp2
      go_ret
      exact ⟨rfl, HB.out⟩

end Go.Proofs.YtedmhafpaielmaaDoor
