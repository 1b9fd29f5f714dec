/- Layer 16: set, an SR and an RS are true, reset they are false: the walk. -/
import Derived.Test.YtedmhafpaielmaaDoorStdI
namespace Go.Proofs.YtedmhafpaielmaaDoor
open Go.RowKit
set_option linter.unusedVariables false
set_option linter.unusedSimpArgs false
attribute [local go_sem] ite_max ite_min vite_max vite_min ext_cell ext_frozen extS_cell extS_frozen

theorem Row.other {w : World} {g h : Nat} {zs : List Int} (r : Row w g zs) (hn : h ≠ g) (j : Nat) (v : Value) : Row (w.setCell ⟨h, j, none⟩ v) g zs :=
  ⟨by simpa [World.setCell] using r.lt, fun i y hy => by rw [World.cell?_setCell_other _ _ _ _ (fun he => by injection he with h1 h2; exact hn h1)]; exact r.cell i y hy, fun o => by have := r.free o; go_simp⟩

theorem Row.drew {w : World} {g : Nat} {zs : List Int} (r : Row w g zs) : Row w.drew g zs := r.below ((Below.refl _ _).drew)
def oneB (b : Bool) : Int := bif b then 1 else 0
theorem and_fin : ∀ n : Fin 256, (bits .and .u8 (n.val : Int) 1 = 0 ∨ bits .and .u8 (n.val : Int) 1 = 1) ∧ (bits .and .u8 (n.val : Int) 2 = 0 ∨ bits .and .u8 (n.val : Int) 2 = 2) := by decide +kernel
theorem and_u8 (z : Int) (h : 0 ≤ z ∧ z ≤ 255) : (bits .and .u8 z 1 = 0 ∨ bits .and .u8 z 1 = 1) ∧ (bits .and .u8 z 2 = 0 ∨ bits .and .u8 z 2 = 2) := by
  have := and_fin ⟨z.toNat, by omega⟩
  rwa [show ((⟨z.toNat, by omega⟩ : Fin 256).val : Int) = z from by show (z.toNat : Int) = z; omega] at this
def srQ (s r q : Int) : Int := bif s != 0 || (q != 0 && r == 0) then 1 else 0
def rsQ (s r q : Int) : Int := bif r == 0 && (q != 0 || s != 0) then 1 else 0
theorem sr_step (s r q : Int) (hs : s = 0 ∨ s = 1) (hr : r = 0 ∨ r = 2) (hq : q = 0 ∨ q = 1) : StepC 17 3 [s, r, q] [s, r, srQ s r q] := by
  rcases hs with rfl | rfl <;> rcases hr with rfl | rfl <;> rcases hq with rfl | rfl
  · exact step_sr000
  · exact step_sr001
  · exact step_sr020
  · exact step_sr021
  · exact step_sr100
  · exact step_sr101
  · exact step_sr120
  · exact step_sr121
theorem rs_step (s r q : Int) (hs : s = 0 ∨ s = 1) (hr : r = 0 ∨ r = 2) (hq : q = 0 ∨ q = 1) : StepC 18 3 [s, r, q] [s, r, rsQ s r q] := by
  rcases hs with rfl | rfl <;> rcases hr with rfl | rfl <;> rcases hq with rfl | rfl
  · exact step_rs000
  · exact step_rs001
  · exact step_rs020
  · exact step_rs021
  · exact step_rs100
  · exact step_rs101
  · exact step_rs120
  · exact step_rs121

set_option maxRecDepth 100000 in
set_option maxHeartbeats 4000000 in
theorem flips_any (ad : Option Addr) (cap n : Nat) (zs : List Int) (w : World) (htab : Blanks w) (hlen : zs.length = n) (hn : n ≤ cap) (hcap : cap ≤ 9223372036854775807)
    (hby : ∀ z ∈ zs, 0 ≤ z ∧ z ≤ 255) (hc : n = 0 ∨ ∃ b off, ad = some ⟨b, off, none⟩ ∧ b < w.heap.size ∧ ∀ (i : Nat) z, zs[i]? = some z → w.cell? ⟨b, off + i, none⟩ = some (.int .u8 z)) :
    Calls Tryd.prog 5 #[.slice ad n cap] w fun e w' => e = .returned (.bool true) ∧ Below w.heap.size w w' := by
  have HT := Lib.hid htab
  have HC := Lib.hid hc
  have HBY := Lib.hid hby
  have HLEN := Lib.hid hlen
  clear htab hc hby hlen
  go_enter Tryd.func5, Tryd.ntmps5
  go_wp2_with fail
  refine (awake16 w HT.out).mono ?_
  rintro e w1 ⟨rfl, hb1⟩
  go_upto_region 6 with (fail)
  refine wp_name fun W hW => ?_
  have hR1 : Hid (Row W w1.heap.size [0, 0, 0]) := Lib.hid (by rw [hW.out]; exact row3 (by first | (simp; done) | (simp; omega)) (fun o => by go_simp) (by go_simp) (by go_simp) (by go_simp))
  have hR2 : Hid (Row W (w1.heap.size + 1) [0, 0, 0]) := Lib.hid (by rw [hW.out]; exact row3 (by first | (simp; done) | (simp; omega)) (fun o => by go_simp) (by go_simp) (by go_simp) (by go_simp))
  have HB : Hid (Below w.heap.size w W) := Lib.hid (by rw [hW.out]; (repeat' (first | (with_reducible exact Below.refl _ _) | (with_reducible assumption) | (with_reducible refine below_drewN ?_ _) | (with_reducible refine Below.drew ?_) | (with_reducible refine below_new ?_ (Nat.le_refl _) _) | (with_reducible refine Below.setCell ?_ ?_ _) | (with_reducible refine below_go ?_ (by assumption) (Nat.le_refl _)) | (simp; done) | (simp; omega) | omega)))
  have hz1 := hb1.size
  clear hW hb1
  go_loopw [3, 4, 5, 6, 7] (fun v1 v2 va vb vi wr => ∃ (k g1 c1 g2 c2 : Nat) (s1 r1 s2 r2 : Int) (a b : Bool), k ≤ n ∧ k ≤ 300 ∧ v1 = .slice (some ⟨g1, 0, none⟩) 3 c1 ∧ v2 = .slice (some ⟨g2, 0, none⟩) 3 c2 ∧ va = .bool a ∧ vb = .bool b ∧ vi = .int .i64 k ∧
    Hid (Row wr g1 [s1, r1, oneB a]) ∧ Hid (Row wr g2 [s2, r2, oneB b]) ∧ g1 ≠ g2 ∧ w.heap.size ≤ g1 ∧ w.heap.size ≤ g2 ∧ Hid (Below w.heap.size w wr)) (fun _ _ _ _ i _ => n - (intOf i).toNat)
  case atStart => exact ⟨0, _, 3, _, 3, 0, 0, 0, 0, false, false, by omega, by omega, rfl, rfl, rfl, rfl, rfl, hR1, hR2, by omega, by omega, by omega, HB⟩
  case round =>
    clear hR1 hR2 HB
    obtain ⟨k, g1, c1, g2, c2, s1, r1, s2, r2, a, b, hk, hk3, rfl, rfl, rfl, rfl, rfl, HR1, HR2, hne, hg1, hg2, HB⟩ := hrel
    by_cases hlt : k < n
    · by_cases h300 : k < 300
      · obtain ⟨z, hz⟩ : ∃ z, zs[k]? = some z := ⟨zs[k]'(by rw [HLEN.out]; exact hlt), List.getElem?_eq_getElem _⟩
        obtain ⟨bb, off, rfl, hbl, hcell⟩ : ∃ b off, ad = some ⟨b, off, none⟩ ∧ b < w.heap.size ∧ ∀ (i : Nat) z, zs[i]? = some z → w.cell? ⟨b, off + i, none⟩ = some (.int .u8 z) := by
          rcases HC.out with h | h
          · omega
          · exact h
        have hzb := HBY.out z (List.mem_of_getElem? hz)
        have cz : wr.cell? ⟨bb, off + k, none⟩ = some (.int .u8 z) := (HB.out.cell (p := ⟨bb, off + k, none⟩) hbl).trans (hcell k z hz)
        have hzs := HB.out.size
        have hbr : bb < wr.heap.size := by omega
        have hk0 : (0 : Int) ≤ (k : Int) ∧ (k : Int) < (n : Int) ∧ (k : Int) < 300 := by omega
        clear hcell hz
        obtain ⟨hx1, hx2⟩ := and_u8 z hzb
        obtain ⟨s, hs⟩ : ∃ s, bits .and .u8 z 1 = s := ⟨_, rfl⟩
        obtain ⟨r, hr⟩ : ∃ r, bits .and .u8 z 2 = r := ⟨_, rfl⟩
        rw [hs] at hx1
        rw [hr] at hx2
        have hws : IntKind.i64.wrap s = s := IntWalk.i64_in _ (by omega)
        have hwr : IntKind.i64.wrap r = r := IntWalk.i64_in _ (by omega)
        go_upto_region 8 with (fail)
        refine wp_region_ext (by kernel_rfl) (by kernel_rfl) ?_
        repeat (go_big_quiet_step (fail))
        refine wpQuiet_nil ?_
        intro v8 hv8
        replace hv8 := ext_below hv8
        have cz8 := (hv8.cell (p := ⟨bb, off + k, none⟩) hbr).trans cz
        have HR18 := Lib.hid (HR1.out.below hv8)
        have HR28 := Lib.hid (HR2.out.below hv8)
        have hbr8 : bb < v8.heap.size := Nat.lt_of_lt_of_le hbr hv8.size
        have HB8 := Lib.hid (HB.out.trans (hv8.mono HB.out.size))
        clear HR1 HR2 HB cz hv8 hbr
        go_upto_region 9 with (fail)
        have c10 := HR18.out.cell 0 _ rfl
        have c11 := HR18.out.cell 1 _ rfl
        have c20 := HR28.out.cell 0 _ rfl
        have c21 := HR28.out.cell 1 _ rfl
        have f1 := HR18.out.free
        have f2 := HR28.out.free
        have l1 := HR18.out.lt
        have l2 := HR28.out.lt
        have hne' : ¬ g1 = g2 := hne
        have hne2 : ¬ g2 = g1 := fun h => hne h.symm
        go_region
        go_upto_region 10 with (fail)
        refine wp_name fun W10 hW10 => ?_
        have HRA : Hid (Row W10 g1 [s, r, oneB a]) := Lib.hid (by rw [hW10.out]; exact ((((HR18.out.set 0 s).set 1 r).other hne2 _ _).other hne2 _ _).drew)
        have HRB : Hid (Row W10 g2 [s, r, oneB b]) := Lib.hid (by rw [hW10.out]; exact ((((HR28.out.other hne' _ _).other hne' _ _).set 0 s).set 1 r).drew)
        have HBA : Hid (Below w.heap.size w W10) := Lib.hid (by rw [hW10.out]; have := HB8.out; (repeat' (first | (with_reducible exact Below.refl _ _) | (with_reducible assumption) | (with_reducible refine below_drewN ?_ _) | (with_reducible refine Below.drew ?_) | (with_reducible refine below_new ?_ (Nat.le_refl _) _) | (with_reducible refine Below.setCell ?_ ?_ _) | (with_reducible refine below_go ?_ (by assumption) (Nat.le_refl _)) | (simp; done) | (simp; omega) | omega)))
        clear hW10 HR18 HR28 HB8 cz8 hbr8 c10 c11 c20 c21 f1 f2 l1 l2
        go_wp2_with fail
        refine (sr_step s r (oneB a) hx1 hx2 (by cases a <;> simp [oneB]) g1 c1 W10 HRA.out (HT.out.on HBA.out)).mono ?_
        rintro e w3 ⟨g3, c3, rfl, hg3, hr3, hb3⟩
        have HR3 := Lib.hid hr3
        have HRB3 := Lib.hid (HRB.out.below hb3)
        have HB3 := Lib.hid (HBA.out.trans (hb3.mono HBA.out.size))
        clear hr3 HRA HRB
        go_wp2_with fail
        refine (rs_step s r (oneB b) hx1 hx2 (by cases b <;> simp [oneB]) g2 c2 w3 HRB3.out (HT.out.on HB3.out)).mono ?_
        rintro e w4 ⟨g4, c4, rfl, hg4, hr4, hb4⟩
        have HR34 : Hid (Row w4 g3 [s, r, srQ s r (oneB a)]) := Lib.hid (HR3.out.below hb4)
        have HR4 : Hid (Row w4 g4 [s, r, rsQ s r (oneB b)]) := Lib.hid hr4
        have HB4 := Lib.hid (HB3.out.trans (hb4.mono HB3.out.size))
        have hz10 := HBA.out.size
        have hl3 := HR3.out.lt
        have hne34 : g3 ≠ g4 := by omega
        have hz3 := HB3.out.size
        have hg3' : w.heap.size ≤ g3 := by omega
        have hg4' : w.heap.size ≤ g4 := by omega
        clear hr4 HRB3 HR3 hb3 hb4 HB3 HBA hz3 hz10 hws hwr hs hr
        go_upto_region 11 with (fail)
        rcases hx1 with rfl | rfl <;> rcases hx2 with rfl | rfl <;> cases a <;> cases b
        · have HA : Hid (Row w4 g3 [0, 0, oneB false]) := HR34
          have HBB : Hid (Row w4 g4 [0, 0, oneB false]) := HR4
          have e3 : w4.cell? ⟨g3, 2, none⟩ = some (.int .i64 0) := HA.out.cell 2 _ rfl
          have e4 : w4.cell? ⟨g4, 2, none⟩ = some (.int .i64 0) := HBB.out.cell 2 _ rfl
          go_wp2
          go_roundw
          case rel => exact ⟨k + 1, g3, c3, g4, c4, 0, 0, 0, 0, false, false, by omega, by omega, rfl, rfl, rfl, rfl, by go_num, HA, HBB, hne34, hg3', hg4', HB4⟩
          case measure => simp [intOf]; omega
        · have HA : Hid (Row w4 g3 [0, 0, oneB false]) := HR34
          have HBB : Hid (Row w4 g4 [0, 0, oneB true]) := HR4
          have e3 : w4.cell? ⟨g3, 2, none⟩ = some (.int .i64 0) := HA.out.cell 2 _ rfl
          have e4 : w4.cell? ⟨g4, 2, none⟩ = some (.int .i64 1) := HBB.out.cell 2 _ rfl
          go_wp2
          go_roundw
          case rel => exact ⟨k + 1, g3, c3, g4, c4, 0, 0, 0, 0, false, true, by omega, by omega, rfl, rfl, rfl, rfl, by go_num, HA, HBB, hne34, hg3', hg4', HB4⟩
          case measure => simp [intOf]; omega
        · have HA : Hid (Row w4 g3 [0, 0, oneB true]) := HR34
          have HBB : Hid (Row w4 g4 [0, 0, oneB false]) := HR4
          have e3 : w4.cell? ⟨g3, 2, none⟩ = some (.int .i64 1) := HA.out.cell 2 _ rfl
          have e4 : w4.cell? ⟨g4, 2, none⟩ = some (.int .i64 0) := HBB.out.cell 2 _ rfl
          go_wp2
          go_roundw
          case rel => exact ⟨k + 1, g3, c3, g4, c4, 0, 0, 0, 0, true, false, by omega, by omega, rfl, rfl, rfl, rfl, by go_num, HA, HBB, hne34, hg3', hg4', HB4⟩
          case measure => simp [intOf]; omega
        · have HA : Hid (Row w4 g3 [0, 0, oneB true]) := HR34
          have HBB : Hid (Row w4 g4 [0, 0, oneB true]) := HR4
          have e3 : w4.cell? ⟨g3, 2, none⟩ = some (.int .i64 1) := HA.out.cell 2 _ rfl
          have e4 : w4.cell? ⟨g4, 2, none⟩ = some (.int .i64 1) := HBB.out.cell 2 _ rfl
          go_wp2
          go_roundw
          case rel => exact ⟨k + 1, g3, c3, g4, c4, 0, 0, 0, 0, true, true, by omega, by omega, rfl, rfl, rfl, rfl, by go_num, HA, HBB, hne34, hg3', hg4', HB4⟩
          case measure => simp [intOf]; omega
        · have HA : Hid (Row w4 g3 [0, 2, oneB false]) := HR34
          have HBB : Hid (Row w4 g4 [0, 2, oneB false]) := HR4
          have e3 : w4.cell? ⟨g3, 2, none⟩ = some (.int .i64 0) := HA.out.cell 2 _ rfl
          have e4 : w4.cell? ⟨g4, 2, none⟩ = some (.int .i64 0) := HBB.out.cell 2 _ rfl
          go_wp2
          go_roundw
          case rel => exact ⟨k + 1, g3, c3, g4, c4, 0, 2, 0, 2, false, false, by omega, by omega, rfl, rfl, rfl, rfl, by go_num, HA, HBB, hne34, hg3', hg4', HB4⟩
          case measure => simp [intOf]; omega
        · have HA : Hid (Row w4 g3 [0, 2, oneB false]) := HR34
          have HBB : Hid (Row w4 g4 [0, 2, oneB false]) := HR4
          have e3 : w4.cell? ⟨g3, 2, none⟩ = some (.int .i64 0) := HA.out.cell 2 _ rfl
          have e4 : w4.cell? ⟨g4, 2, none⟩ = some (.int .i64 0) := HBB.out.cell 2 _ rfl
          go_wp2
          go_roundw
          case rel => exact ⟨k + 1, g3, c3, g4, c4, 0, 2, 0, 2, false, false, by omega, by omega, rfl, rfl, rfl, rfl, by go_num, HA, HBB, hne34, hg3', hg4', HB4⟩
          case measure => simp [intOf]; omega
        · have HA : Hid (Row w4 g3 [0, 2, oneB false]) := HR34
          have HBB : Hid (Row w4 g4 [0, 2, oneB false]) := HR4
          have e3 : w4.cell? ⟨g3, 2, none⟩ = some (.int .i64 0) := HA.out.cell 2 _ rfl
          have e4 : w4.cell? ⟨g4, 2, none⟩ = some (.int .i64 0) := HBB.out.cell 2 _ rfl
          go_wp2
          go_roundw
          case rel => exact ⟨k + 1, g3, c3, g4, c4, 0, 2, 0, 2, false, false, by omega, by omega, rfl, rfl, rfl, rfl, by go_num, HA, HBB, hne34, hg3', hg4', HB4⟩
          case measure => simp [intOf]; omega
        · have HA : Hid (Row w4 g3 [0, 2, oneB false]) := HR34
          have HBB : Hid (Row w4 g4 [0, 2, oneB false]) := HR4
          have e3 : w4.cell? ⟨g3, 2, none⟩ = some (.int .i64 0) := HA.out.cell 2 _ rfl
          have e4 : w4.cell? ⟨g4, 2, none⟩ = some (.int .i64 0) := HBB.out.cell 2 _ rfl
          go_wp2
          go_roundw
          case rel => exact ⟨k + 1, g3, c3, g4, c4, 0, 2, 0, 2, false, false, by omega, by omega, rfl, rfl, rfl, rfl, by go_num, HA, HBB, hne34, hg3', hg4', HB4⟩
          case measure => simp [intOf]; omega
        · have HA : Hid (Row w4 g3 [1, 0, oneB true]) := HR34
          have HBB : Hid (Row w4 g4 [1, 0, oneB true]) := HR4
          have e3 : w4.cell? ⟨g3, 2, none⟩ = some (.int .i64 1) := HA.out.cell 2 _ rfl
          have e4 : w4.cell? ⟨g4, 2, none⟩ = some (.int .i64 1) := HBB.out.cell 2 _ rfl
          go_wp2
          go_roundw
          case rel => exact ⟨k + 1, g3, c3, g4, c4, 1, 0, 1, 0, true, true, by omega, by omega, rfl, rfl, rfl, rfl, by go_num, HA, HBB, hne34, hg3', hg4', HB4⟩
          case measure => simp [intOf]; omega
        · have HA : Hid (Row w4 g3 [1, 0, oneB true]) := HR34
          have HBB : Hid (Row w4 g4 [1, 0, oneB true]) := HR4
          have e3 : w4.cell? ⟨g3, 2, none⟩ = some (.int .i64 1) := HA.out.cell 2 _ rfl
          have e4 : w4.cell? ⟨g4, 2, none⟩ = some (.int .i64 1) := HBB.out.cell 2 _ rfl
          go_wp2
          go_roundw
          case rel => exact ⟨k + 1, g3, c3, g4, c4, 1, 0, 1, 0, true, true, by omega, by omega, rfl, rfl, rfl, rfl, by go_num, HA, HBB, hne34, hg3', hg4', HB4⟩
          case measure => simp [intOf]; omega
        · have HA : Hid (Row w4 g3 [1, 0, oneB true]) := HR34
          have HBB : Hid (Row w4 g4 [1, 0, oneB true]) := HR4
          have e3 : w4.cell? ⟨g3, 2, none⟩ = some (.int .i64 1) := HA.out.cell 2 _ rfl
          have e4 : w4.cell? ⟨g4, 2, none⟩ = some (.int .i64 1) := HBB.out.cell 2 _ rfl
          go_wp2
          go_roundw
          case rel => exact ⟨k + 1, g3, c3, g4, c4, 1, 0, 1, 0, true, true, by omega, by omega, rfl, rfl, rfl, rfl, by go_num, HA, HBB, hne34, hg3', hg4', HB4⟩
          case measure => simp [intOf]; omega
        · have HA : Hid (Row w4 g3 [1, 0, oneB true]) := HR34
          have HBB : Hid (Row w4 g4 [1, 0, oneB true]) := HR4
          have e3 : w4.cell? ⟨g3, 2, none⟩ = some (.int .i64 1) := HA.out.cell 2 _ rfl
          have e4 : w4.cell? ⟨g4, 2, none⟩ = some (.int .i64 1) := HBB.out.cell 2 _ rfl
          go_wp2
          go_roundw
          case rel => exact ⟨k + 1, g3, c3, g4, c4, 1, 0, 1, 0, true, true, by omega, by omega, rfl, rfl, rfl, rfl, by go_num, HA, HBB, hne34, hg3', hg4', HB4⟩
          case measure => simp [intOf]; omega
        · have HA : Hid (Row w4 g3 [1, 2, oneB true]) := HR34
          have HBB : Hid (Row w4 g4 [1, 2, oneB false]) := HR4
          have e3 : w4.cell? ⟨g3, 2, none⟩ = some (.int .i64 1) := HA.out.cell 2 _ rfl
          have e4 : w4.cell? ⟨g4, 2, none⟩ = some (.int .i64 0) := HBB.out.cell 2 _ rfl
          go_wp2
          go_roundw
          case rel => exact ⟨k + 1, g3, c3, g4, c4, 1, 2, 1, 2, true, false, by omega, by omega, rfl, rfl, rfl, rfl, by go_num, HA, HBB, hne34, hg3', hg4', HB4⟩
          case measure => simp [intOf]; omega
        · have HA : Hid (Row w4 g3 [1, 2, oneB true]) := HR34
          have HBB : Hid (Row w4 g4 [1, 2, oneB false]) := HR4
          have e3 : w4.cell? ⟨g3, 2, none⟩ = some (.int .i64 1) := HA.out.cell 2 _ rfl
          have e4 : w4.cell? ⟨g4, 2, none⟩ = some (.int .i64 0) := HBB.out.cell 2 _ rfl
          go_wp2
          go_roundw
          case rel => exact ⟨k + 1, g3, c3, g4, c4, 1, 2, 1, 2, true, false, by omega, by omega, rfl, rfl, rfl, rfl, by go_num, HA, HBB, hne34, hg3', hg4', HB4⟩
          case measure => simp [intOf]; omega
        · have HA : Hid (Row w4 g3 [1, 2, oneB true]) := HR34
          have HBB : Hid (Row w4 g4 [1, 2, oneB false]) := HR4
          have e3 : w4.cell? ⟨g3, 2, none⟩ = some (.int .i64 1) := HA.out.cell 2 _ rfl
          have e4 : w4.cell? ⟨g4, 2, none⟩ = some (.int .i64 0) := HBB.out.cell 2 _ rfl
          go_wp2
          go_roundw
          case rel => exact ⟨k + 1, g3, c3, g4, c4, 1, 2, 1, 2, true, false, by omega, by omega, rfl, rfl, rfl, rfl, by go_num, HA, HBB, hne34, hg3', hg4', HB4⟩
          case measure => simp [intOf]; omega
        · have HA : Hid (Row w4 g3 [1, 2, oneB true]) := HR34
          have HBB : Hid (Row w4 g4 [1, 2, oneB false]) := HR4
          have e3 : w4.cell? ⟨g3, 2, none⟩ = some (.int .i64 1) := HA.out.cell 2 _ rfl
          have e4 : w4.cell? ⟨g4, 2, none⟩ = some (.int .i64 0) := HBB.out.cell 2 _ rfl
          go_wp2
          go_roundw
          case rel => exact ⟨k + 1, g3, c3, g4, c4, 1, 2, 1, 2, true, false, by omega, by omega, rfl, rfl, rfl, rfl, by go_num, HA, HBB, hne34, hg3', hg4', HB4⟩
          case measure => simp [intOf]; omega
      · go_wp2
        go_ret
        exact ⟨rfl, HB.out⟩
    · go_wp2
      go_ret
      exact ⟨rfl, HB.out⟩

end Go.Proofs.YtedmhafpaielmaaDoor
