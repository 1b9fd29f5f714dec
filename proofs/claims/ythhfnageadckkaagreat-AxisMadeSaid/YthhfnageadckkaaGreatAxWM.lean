/- Layer 15: AxisMade, by the walk. PRINTED by wip/tool/mkaxmade.py -/
import Derived.Test.YthhfnageadckkaaGreatAxMF
import Derived.Test.YthhfnageadckkaaGreatM44
namespace Go.Proofs.YthhfnageadckkaaGreat
open Go.RowKit
set_option linter.unusedVariables false
set_option linter.unusedSimpArgs false
attribute [local go_sem] ite_max ite_min vite_max vite_min ext_cell ext_frozen

theorem newX_right {l : LimS} {win hat fast creep : Int} (h : madeB l win hat fast creep = true) : rightX (newX l win hat fast creep) = true := by
 obtain ⟨h1, h2, h3⟩ := madeB_parts h
 have hl : (List.replicate win.toNat (0 : Int)).length = win.toNat := List.length_replicate
 have e1 : rightW (List.replicate win.toNat 0) (List.replicate win.toNat (0 : Int)).length = true := rep_right ⟨h2, h3⟩ (by omega)
 have e2 : nearK 0 (List.replicate win.toNat 0) (List.replicate win.toNat (0 : Int)).length = true := near_same _ _
 have hb := rightB_yes h1
 have e3 : safeB (bndX (newX l win hat fast creep)) ⟨0, 0⟩ = true := safe_stand (bnd_right (a := newX l win hat fast creep) h1) (by show (-1099511627776 : Int) ≤ 0 ∧ (0 : Int) ≤ 1099511627776; omega)
 have e4 : decide (((List.replicate win.toNat (0 : Int)).length : Int) = win) = true := decide_eq_true (by rw [hl]; omega)
 show (madeB l win hat fast creep && decide ((0 : Int) ≤ 0 ∧ (0 : Int) ≤ 7) && rightW (List.replicate win.toNat 0) (List.replicate win.toNat (0 : Int)).length && decide (((List.replicate win.toNat (0 : Int)).length : Int) = win) && safeB (bndX (newX l win hat fast creep)) ⟨0, 0⟩ && nearK 0 (List.replicate win.toNat 0) (List.replicate win.toNat (0 : Int)).length && true && true && decide ((0 : Int) ≤ 100 ∧ (100 : Int) ≤ 100) && true && true) = true
 rw [h, e1, e2, e3, e4]
 rfl
theorem newX_v {W : World} {l : LimS} {win hat fast creep : Int} {sv : Value} (h : SmV W (List.replicate win.toNat 0) sv) : AxV W (newX l win hat fast creep) sv nilS nilS :=
 ⟨h, nil_line, fun c hc => by simp [newX] at hc, by show I64 0; unfold I64; decide, by show I64 0; unfold I64; decide, by show I64 0; unfold I64; decide⟩
theorem zeroX_v (W : World) : AxV W zeroX nilS nilS nilS :=
 ⟨⟨none, 0, rfl, Nat.le_refl _, by decide, by simp [zeroX, intsC], fun hn => by simp [zeroX] at hn⟩, nil_line, fun c hc => by simp [zeroX] at hc, by show I64 0; unfold I64; decide, by show I64 0; unfold I64; decide, by show I64 0; unfold I64; decide⟩

set_option maxRecDepth 100000 in
set_option maxHeartbeats 16000000 in
theorem made_main (l : LimS) (win hat fast creep : Int) (a : AX) (sv nv wv : Value) (L : List Value) (hL : AxL a sv nv wv L) (w : World) (h : AxV w a sv nv wv) :
  Calls Tryz.prog 6 #[.agg #[.int .i64 l.v, .int .i64 l.a, .int .i64 l.d, .int .i64 l.lo, .int .i64 l.hi], .int .i64 win, .int .i64 hat, .int .i64 fast, .int .i64 creep, .agg L.toArray] w fun e w' => e = .returned (.bool true) ∧ Below w.heap.size w w' := by
 have HA := Lib.hid h
 have HL := Lib.hid hL
 obtain ⟨r1, hr1⟩ : ∃ r, shortX a [] = r := ⟨_, rfl⟩
 have HR1 := Lib.hid hr1
 obtain ⟨r2, hr2⟩ : ∃ r, rightX a = r := ⟨_, rfl⟩
 have HR2 := Lib.hid hr2
 have HSH : Hid (∀ W, Below w.heap.size w W → Calls Tryz.prog 14 #[.agg L.toArray, .agg (inC inZ (.slice none 0 0)).toArray] W fun e w' => e = .returned (.bool r1) ∧ Below W.heap.size W w') := Lib.hid (fun W hb => by rw [hL.eq]; exact short15_at a sv nv wv W (h.below hb) inZ [] _ 0 rfl ⟨_, _, rfl⟩ r1 hr1)
 have HRI : Hid (∀ W, Below w.heap.size w W → Calls Tryz.prog 11 #[.agg L.toArray] W fun e w' => e = .returned (.bool r2) ∧ Below W.heap.size W w') := Lib.hid (fun W hb => aright_L a sv nv wv L r2 W (h.below hb) hL hr2)
 have HRR : Hid (∀ W, Below w.heap.size w W → r1 = true → Calls Tryz.prog 19 #[.agg L.toArray] W fun e w' => e = .returned (.bool r2) ∧ Below W.heap.size W w') := Lib.hid (fun W hb hs => rright15_at a sv nv wv L hL r2 W (h.below hb) (by rw [← hr1] at hs; unfold shortX at hs; simp at hs; omega) (by rw [← hr1] at hs; unfold shortX at hs; simp at hs; omega) hr2)
 obtain ⟨bd, hbd⟩ : ∃ x, bndX a = x := ⟨_, rfl⟩
 have HBA : Hid (∀ W, Calls Tryz.prog 20 #[.agg L.toArray] W fun e w' => e = .returned (.agg #[.int .i64 bd.v, .int .i64 bd.a, .int .i64 bd.d, .int .i64 bd.lo, .int .i64 bd.hi]) ∧ Below W.heap.size W w') := Lib.hid (fun W => abounds_L a sv nv wv L bd W hL hbd)
 have HBR : Hid (∀ W, Calls Tryz.prog 21 #[.agg L.toArray] W fun e w' => e = .returned (.agg #[.int .i64 bd.v, .int .i64 bd.a, .int .i64 bd.d, .int .i64 bd.lo, .int .i64 bd.hi]) ∧ Below W.heap.size W w') := Lib.hid (fun W => by rw [hL.eq]; exact rbounds_at a sv nv wv bd W hbd)
 obtain ⟨x, hx⟩ : ∃ x, outX a = x := ⟨_, rfl⟩
 have HOA : Hid (∀ W, Below w.heap.size w W → r2 = true → Calls Tryz.prog 22 #[.agg L.toArray] W fun e w' => e = .returned (.int .i64 x) ∧ Below W.heap.size W w') := Lib.hid (fun W hb hq => by
  have hr : AxR W a sv nv wv := ⟨h.below hb, by rw [hr2]; exact hq⟩
  have hi := hr.inv
  have hw := hi.win
  rw [hL.eq]
  exact aout_at a sv nv wv x W hr.v.sm hi.smr (by omega) hi.off hx)
 have HOR : Hid (∀ W, Below w.heap.size w W → r2 = true → Calls Tryz.prog 23 #[.agg L.toArray] W fun e w' => e = .returned (.int .i64 x) ∧ Below W.heap.size W w') := Lib.hid (fun W hb hq => by
  rw [hL.eq]
  exact rout15_at a sv nv wv x W ⟨h.below hb, by rw [hr2]; exact hq⟩ hx)
 clear h hL hr1 hr2 hbd hx
 go_enter Tryz.func6, Tryz.ntmps6
 go_upto_region 1 with (fail)
 refine wp_name fun W hW => ?_
 obtain ⟨B, hB⟩ : ∃ B, B = w.heap.size := ⟨_, rfl⟩
 have HB : Hid (Below w.heap.size w W) := by rw [hW.out]; exact Lib.hid (by exact belowBy)
 have HKl : Hid (W.heap[B]? = some (.cells #[.int .i64 l.v, .int .i64 l.a, .int .i64 l.d, .int .i64 l.lo, .int .i64 l.hi] 23)) := by rw [hW.out, hB]; exact Lib.hid (heap_alloc2_old w _ _)
 have HKa : Hid (W.heap[B + 1]? = some (.cells L.toArray 35)) := by rw [hW.out, hB]; exact Lib.hid (heap_alloc_atX (by simp))
 have HBw := Lib.hid hB
 (try rw [← hB])
 clear hW hB
 go_wp2_with fail
 refine (awake15 _).mono ?_
 rintro e w1 ⟨rfl, hb1⟩
 have HB1 := Lib.hid (HB.out.trans (hb1.mono HB.out.size))
 have hlt : B + 1 < W.heap.size := (Array.getElem?_eq_some_iff.1 HKa.out).1
 have HK1 := Lib.hid ((hb1.block B (by omega)).trans HKl.out)
 have HA1 := Lib.hid ((hb1.block (B + 1) hlt).trans HKa.out)
 clear hb1 HB HKl HKa hlt
 have hlt1 : B + 1 < w1.heap.size := (Array.getElem?_eq_some_iff.1 HA1.out).1
 have c0 := heap_cell 0 _ HK1.out rfl
 have c1 := heap_cell 1 _ HK1.out rfl
 have c2 := heap_cell 2 _ HK1.out rfl
 have c3 := heap_cell 3 _ HK1.out rfl
 have c4 := heap_cell 4 _ HK1.out rfl
 go_wp2_with fail
 refine (anew_any l win hat fast creep _).mono ?_
 rintro e w2 ⟨hn, hb2⟩
 have HB2 := Lib.hid (HB1.out.trans (hb2.mono HB1.out.size))
 have HK2 := Lib.hid ((hb2.block B (by omega)).trans HK1.out)
 have HA2 := Lib.hid ((hb2.block (B + 1) hlt1).trans HA1.out)
 have hlt2 : B + 1 < w2.heap.size := (Array.getElem?_eq_some_iff.1 HA2.out).1
 clear hb2 HB1 HK1 HA1 hlt1 c0 c1 c2 c3 c4
 rcases hn with ⟨hmd, sv1, rfl, hs1, -⟩ | ⟨hmd, rfl⟩
 case' inl =>
  obtain ⟨L1, hL1⟩ := axL_some (newX l win hat fast creep) sv1 nilS nilS
  rw [← hL1.eq]
  have HL1 := Lib.hid hL1
  have HV1 := Lib.hid (newX_v (l := l) (hat := hat) (fast := fast) (creep := creep) hs1)
  have HMD := Lib.hid hmd
  clear hmd hs1 hL1
  have HO1 := Lib.hid (AxR.one HV1.out HL1.out)
  have HN1 : Hid (L1.toArray.size = 26) := Lib.hid (by rw [HL1.out.eq]; rfl)
  go_upto_region 4 with (refine wpList_store_row rfl 35 _ _ rfl w2.heap.size L1.toArray rfl rfl 35 _ (heap_alloc_new _ _) (by rw [List.size_toArray]; exact HL1.out.size) (by rw [HN1.out]; rfl) HO1.out ?_)
  refine wp_name fun W3 hW1 => ?_
  obtain ⟨P1, hP1⟩ : ∃ P, P = w2.heap.size := ⟨_, rfl⟩
  have hbx : Below w2.heap.size w2 W3 := by rw [hW1.out]; exact below_setRow (below_new (Below.refl _ _) (Nat.le_refl _) _) (Nat.le_refl _) _
  have HP1 : Hid (W3.heap[P1]? = some (.cells L1.toArray 35)) := Lib.hid (by rw [hW1.out, hP1]; exact setRow_heap _ _ _ _ _ _ (heap_alloc_new _ _))
  (try rw [← hP1])
  clear hW1 hP1
  have HB3 := Lib.hid (HB2.out.trans (hbx.mono HB2.out.size))
  have HK3 := Lib.hid ((hbx.block B (by omega)).trans HK2.out)
  have HA3 := Lib.hid ((hbx.block (B + 1) hlt2).trans HA2.out)
  have HV3 := Lib.hid (HV1.out.below hbx)
  have hlt3 : B + 1 < W3.heap.size := (Array.getElem?_eq_some_iff.1 HA3.out).1
  have hp3 : P1 < W3.heap.size := (Array.getElem?_eq_some_iff.1 HP1.out).1
  clear hbx HB2 HK2 HA2 HV1 hlt2
  have c0 := heap_cell 0 _ HK3.out rfl
  have c1 := heap_cell 1 _ HK3.out rfl
  have c2 := heap_cell 2 _ HK3.out rfl
  have c3 := heap_cell 3 _ HK3.out rfl
  have c4 := heap_cell 4 _ HK3.out rfl
  go_wp2_with fail
  refine (rmade_at l win hat fast creep true _ HMD.out).mono ?_
  rintro e w4 ⟨rfl, hb4⟩
  have HB4 := Lib.hid (HB3.out.trans (hb4.mono HB3.out.size))
  have HK4 := Lib.hid ((hb4.block B (by omega)).trans HK3.out)
  have HA4 := Lib.hid ((hb4.block (B + 1) hlt3).trans HA3.out)
  have HV4 := Lib.hid (HV3.out.below hb4)
  have HP4 := Lib.hid ((hb4.block P1 hp3).trans HP1.out)
  have hlt4 : B + 1 < w4.heap.size := (Array.getElem?_eq_some_iff.1 HA4.out).1
  have hp4 : P1 < w4.heap.size := (Array.getElem?_eq_some_iff.1 HP4.out).1
  clear hb4 HB3 HK3 HA3 HV3 HP1 hlt3 hp3 c0 c1 c2 c3 c4
  have c0 := heap_cell 0 _ HK4.out rfl
  have c1 := heap_cell 1 _ HK4.out rfl
  have c2 := heap_cell 2 _ HK4.out rfl
  have c3 := heap_cell 3 _ HK4.out rfl
  have c4 := heap_cell 4 _ HK4.out rfl
  go_wp2_with fail
  refine (rnew_at l win hat fast creep _ (madeB_parts HMD.out).2).mono ?_
  rintro e w5 ⟨⟨sv2, rfl, hs2⟩, hb5⟩
  obtain ⟨L2, hL2⟩ := axL_some (newX l win hat fast creep) sv2 nilS nilS
  rw [← hL2.eq]
  have HL2 := Lib.hid hL2
  have HV5 := Lib.hid (newX_v (l := l) (hat := hat) (fast := fast) (creep := creep) hs2)
  have HB5 := Lib.hid (HB4.out.trans (hb5.mono HB4.out.size))
  have HA5 := Lib.hid ((hb5.block (B + 1) hlt4).trans HA4.out)
  have HV51 := Lib.hid (HV4.out.below hb5)
  have HP5 := Lib.hid ((hb5.block P1 hp4).trans HP4.out)
  have hlt5 : B + 1 < w5.heap.size := (Array.getElem?_eq_some_iff.1 HA5.out).1
  have hp5 : P1 < w5.heap.size := (Array.getElem?_eq_some_iff.1 HP5.out).1
  clear hs2 hL2 hb5 HB4 HK4 HA4 HV4 HP4 hlt4 hp4 c0 c1 c2 c3 c4
  have HO2 := Lib.hid (AxR.one HV5.out HL2.out)
  have HN2 : Hid (L2.toArray.size = 26) := Lib.hid (by rw [HL2.out.eq]; rfl)
  go_upto_region 6 with (refine wpList_store_row rfl 35 _ _ rfl w5.heap.size L2.toArray rfl rfl 35 _ (heap_alloc_new _ _) (by rw [List.size_toArray]; exact HL2.out.size) (by rw [HN2.out]; rfl) HO2.out ?_)
  refine wp_name fun W6 hW2 => ?_
  obtain ⟨P2, hP2⟩ : ∃ P, P = w5.heap.size := ⟨_, rfl⟩
  have hbx : Below w5.heap.size w5 W6 := by rw [hW2.out]; exact below_setRow (below_new (Below.refl _ _) (Nat.le_refl _) _) (Nat.le_refl _) _
  have HP2 : Hid (W6.heap[P2]? = some (.cells L2.toArray 35)) := Lib.hid (by rw [hW2.out, hP2]; exact setRow_heap _ _ _ _ _ _ (heap_alloc_new _ _))
  (try rw [← hP2])
  clear hW2 hP2
  have HB6 := Lib.hid (HB5.out.trans (hbx.mono HB5.out.size))
  have HA6 := Lib.hid ((hbx.block (B + 1) hlt5).trans HA5.out)
  have HV6 := Lib.hid (HV5.out.below hbx)
  have HV61 := Lib.hid (HV51.out.below hbx)
  have HP6 := Lib.hid ((hbx.block P1 hp5).trans HP5.out)
  have hlt6 : B + 1 < W6.heap.size := (Array.getElem?_eq_some_iff.1 HA6.out).1
  have hp6 : P1 < W6.heap.size := (Array.getElem?_eq_some_iff.1 HP6.out).1
  clear hbx HB5 HA5 HV5 HV51 HP5 hlt5 hp5
  have HSA : Hid (Calls Tryz.prog 15 #[.agg L1.toArray, .agg L2.toArray] W6 fun e w' => e = .returned (.bool true) ∧ Below W6.heap.size W6 w') := Lib.hid (by rw [HL1.out.eq, HL2.out.eq]; exact same15_at _ _ _ _ _ _ _ W6 HV61.out HV6.out)
  go_wp2_with (first
   | (refine wpList_load_midG 35 _ rfl P1 0 rfl L1 _ (range_of HP6.out) Tryz.underlying35 rfl HL1.out.size (by kernel_rfl) ?_)
   | (refine wpList_load_midG 35 _ rfl P2 0 rfl L2 _ (range_of HP2.out) Tryz.underlying35 rfl HL2.out.size (by kernel_rfl) ?_))
  refine (HSA.out).mono ?_
  rintro e w7 ⟨rfl, hb7⟩
  have HB7 := Lib.hid (HB6.out.trans (hb7.mono HB6.out.size))
  have HA7 := Lib.hid ((hb7.block (B + 1) hlt6).trans HA6.out)
  have HV7 := Lib.hid (HV61.out.below hb7)
  have HP7 := Lib.hid ((hb7.block P1 hp6).trans HP6.out)
  have hlt7 : B + 1 < w7.heap.size := (Array.getElem?_eq_some_iff.1 HA7.out).1
  clear hb7 HB6 HA6 HV6 HV61 HP6 HP2 hlt6 hp6 HSA
  go_wp2_with (refine wpList_load_midG 35 _ rfl P1 0 rfl L1 _ (range_of HP7.out) Tryz.underlying35 rfl HL1.out.size (by kernel_rfl) ?_)
  refine (aright_L _ _ _ _ L1 true _ HV7.out HL1.out (newX_right HMD.out)).mono ?_
  rintro e w8 ⟨rfl, hb8⟩
  have HB8 := Lib.hid (HB7.out.trans (hb8.mono HB7.out.size))
  have HA8 := Lib.hid ((hb8.block (B + 1) hlt7).trans HA7.out)
  clear hb8 HB7 HA7 HV7 HP7 hlt7
 case' inr =>
  obtain ⟨L1, hL1⟩ := axL_some zeroX nilS nilS nilS
  rw [← hL1.eq]
  have HL1 := Lib.hid hL1
  have HV1 := Lib.hid (zeroX_v w2)
  have HMD := Lib.hid hmd
  clear hmd hL1
  have HO1 := Lib.hid (AxR.one HV1.out HL1.out)
  have HN1 : Hid (L1.toArray.size = 26) := Lib.hid (by rw [HL1.out.eq]; rfl)
  go_upto_region 4 with (refine wpList_store_row rfl 35 _ _ rfl w2.heap.size L1.toArray rfl rfl 35 _ (heap_alloc_new _ _) (by rw [List.size_toArray]; exact HL1.out.size) (by rw [HN1.out]; rfl) HO1.out ?_)
  refine wp_name fun W3 hW1 => ?_
  obtain ⟨P1, hP1⟩ : ∃ P, P = w2.heap.size := ⟨_, rfl⟩
  have hbx : Below w2.heap.size w2 W3 := by rw [hW1.out]; exact below_setRow (below_new (Below.refl _ _) (Nat.le_refl _) _) (Nat.le_refl _) _
  have HP1 : Hid (W3.heap[P1]? = some (.cells L1.toArray 35)) := Lib.hid (by rw [hW1.out, hP1]; exact setRow_heap _ _ _ _ _ _ (heap_alloc_new _ _))
  (try rw [← hP1])
  clear hW1 hP1
  have HB3 := Lib.hid (HB2.out.trans (hbx.mono HB2.out.size))
  have HK3 := Lib.hid ((hbx.block B (by omega)).trans HK2.out)
  have HA3 := Lib.hid ((hbx.block (B + 1) hlt2).trans HA2.out)
  have hlt3 : B + 1 < W3.heap.size := (Array.getElem?_eq_some_iff.1 HA3.out).1
  have hp3 : P1 < W3.heap.size := (Array.getElem?_eq_some_iff.1 HP1.out).1
  clear hbx HB2 HK2 HA2 HV1 hlt2
  have c0 := heap_cell 0 _ HK3.out rfl
  have c1 := heap_cell 1 _ HK3.out rfl
  have c2 := heap_cell 2 _ HK3.out rfl
  have c3 := heap_cell 3 _ HK3.out rfl
  have c4 := heap_cell 4 _ HK3.out rfl
  go_wp2_with fail
  refine (rmade_at l win hat fast creep false _ HMD.out).mono ?_
  rintro e w4 ⟨rfl, hb4⟩
  have HB4 := Lib.hid (HB3.out.trans (hb4.mono HB3.out.size))
  have HA4 := Lib.hid ((hb4.block (B + 1) hlt3).trans HA3.out)
  have HP4 := Lib.hid ((hb4.block P1 hp3).trans HP1.out)
  have hlt4 : B + 1 < w4.heap.size := (Array.getElem?_eq_some_iff.1 HA4.out).1
  clear hb4 HB3 HK3 HA3 HP1 hlt3 hp3 c0 c1 c2 c3 c4
  have HSA : Hid (Calls Tryz.prog 15 #[.agg L1.toArray, .agg (axC zeroX nilS nilS nilS).toArray] w4 fun e w' => e = .returned (.bool true) ∧ Below w4.heap.size w4 w') := Lib.hid (by rw [HL1.out.eq]; exact same15_at _ _ _ _ _ _ _ w4 (zeroX_v _) (zeroX_v _))
  go_wp2_with (refine wpList_load_midG 35 _ rfl P1 0 rfl L1 _ (range_of HP4.out) Tryz.underlying35 rfl HL1.out.size (by kernel_rfl) ?_)
  refine (HSA.out).mono ?_
  rintro e w8 ⟨rfl, hb8⟩
  have HB8 := Lib.hid (HB4.out.trans (hb8.mono HB4.out.size))
  have HA8 := Lib.hid ((hb8.block (B + 1) hlt4).trans HA4.out)
  clear hb8 HB4 HA4 HP4 hlt4 HSA
 all_goals
  go_wp2_with (refine wpList_load_row rfl 35 _ rfl (B + 1) rfl 35 L.toArray (0, 0) _ HA8.out Tryz.underlying35 rfl HL.out.size ?_)
  refine (HSH.out _ HB8.out).mono ?_
  rintro e w20 ⟨rfl, hb20⟩
  have HB20 := Lib.hid (HB8.out.trans (hb20.mono HB8.out.size))
  have HA20 := Lib.hid ((hb20.block (B + 1) (Array.getElem?_eq_some_iff.1 HA8.out).1).trans HA8.out)
  clear hb20
  cases r1
  ·go_wp2
   go_ret
   exact ⟨rfl, HB20.out⟩
  go_wp2_with (refine wpList_load_row rfl 35 _ rfl (B + 1) rfl 35 L.toArray (0, 0) _ HA20.out Tryz.underlying35 rfl HL.out.size ?_)
  refine (HRR.out _ HB20.out (by trivial)).mono ?_
  rintro e w21 ⟨rfl, hb21⟩
  have HB21 := Lib.hid (HB20.out.trans (hb21.mono HB20.out.size))
  have HA21 := Lib.hid ((hb21.block (B + 1) (Array.getElem?_eq_some_iff.1 HA20.out).1).trans HA20.out)
  have hlt21 : B + 1 < w21.heap.size := (Array.getElem?_eq_some_iff.1 HA21.out).1
  have HRG : Hid (∀ W', Below w21.heap.size w21 W' → W'.rangeAt (B + 1) 0 L) := Lib.hid (fun W' hb => range_of ((hb.block (B + 1) hlt21).trans HA21.out))
  have HUP : Hid (∀ W', Below w21.heap.size w21 W' → Below w.heap.size w W') := Lib.hid (fun W' hb => HB21.out.trans (hb.mono HB21.out.size))
  clear hb21
  go_wp2_with fail
  cases r2
  ·skip
   refine wp_region_held_drew (S := fun w' => Below w21.heap.size w21 w') (by kernel_rfl) ?_ (fun hHeld => ?_)
   ·exact (Below.refl _ _).drew
   (refine takeH (i := 0) (v := .agg L.toArray) rfl (by kernel_rfl) (by kernel_rfl) (by kernel_rfl) (fun _ _ _ h => h) (yieldsIf_load_mid (by kernel_rfl) 35 _ rfl (B + 1) 0 rfl L _ (fun _ hb => HRG.out _ hb) Tryz.underlying35 rfl HL.out.size) (by assumption) ?_)
   refine tT 2 ?_ rfl ?_ ?_; rotate_left; (focus intros; go_simp; try rfl); (try simp only [ly])
   refine oneH (i := 1) (by kernel_rfl) rfl (fun Kc hK => ?_)
   go_simp
   go_at_call 11; refine (HRI.out _ (HUP.out _ hHeld)).mono ?_; rintro e w31 ⟨rfl, hb31⟩; (have HB31 := Lib.hid (hHeld.trans (hb31.mono hHeld.size))); clear hb31 hHeld
   go_wp2_with fail
   refine hK.out _ _ (HB31.out) (fun hHeld => ?_)
   clear hK Kc
   (try simp only [ly])
   refine tT 3 ?_ rfl ?_ ?_; rotate_left; (focus intros; go_simp; try rfl)
   refine tT 4 ?_ rfl ?_ ?_; rotate_left; (focus intros; go_simp; try rfl)
   (refine takeH (i := 5) (v := .agg L.toArray) rfl (by kernel_rfl) (by kernel_rfl) (by kernel_rfl) (fun _ _ _ h => h) (yieldsIf_load_mid (by kernel_rfl) 35 _ rfl (B + 1) 0 rfl L _ (fun _ hb => HRG.out _ hb) Tryz.underlying35 rfl HL.out.size) (by assumption) ?_; (try simp only [ly]))
   (refine takeH (i := 7) (v := .agg L.toArray) rfl (by kernel_rfl) (by kernel_rfl) (by kernel_rfl) (fun _ _ _ h => h) (yieldsIf_load_mid (by kernel_rfl) 35 _ rfl (B + 1) 0 rfl L _ (fun _ hb => HRG.out _ hb) Tryz.underlying35 rfl HL.out.size) (by assumption) ?_; (try simp only [ly]))
   refine oneH (i := 6) (by kernel_rfl) rfl (fun Kc hK => ?_)
   go_simp
   go_at_call 20; refine (HBA.out _).mono ?_; rintro e w32 ⟨rfl, hb32⟩; (have HB32 := Lib.hid (hHeld.trans (hb32.mono hHeld.size))); clear hb32 hHeld
   go_wp2_with fail
   refine hK.out _ _ (HB32.out) (fun hHeld => ?_)
   clear hK Kc
   (try simp only [ly])
   refine oneH (i := 8) (by kernel_rfl) rfl (fun Kc hK => ?_)
   go_simp
   go_at_call 21; refine (HBR.out _).mono ?_; rintro e w33 ⟨rfl, hb33⟩; (have HB33 := Lib.hid (hHeld.trans (hb33.mono hHeld.size))); clear hb33 hHeld
   go_wp2_with fail
   refine hK.out _ _ (HB33.out) (fun hHeld => ?_)
   clear hK Kc
   (try simp only [ly])
   refine tT 9 ?_ rfl ?_ ?_; rotate_left; (focus intros; go_simp; try rfl)
   refine tT 10 ?_ rfl ?_ ?_; rotate_left; (focus intros; go_simp; try rfl)
   refine tT 11 ?_ rfl ?_ ?_; rotate_left; (focus intros; go_simp; try rfl); (try simp only [ly])
   refine tT 12 ?_ rfl ?_ ?_; rotate_left; (focus intros; go_simp; try rfl)
   refine tT 13 ?_ rfl ?_ ?_; rotate_left; (focus intros; go_simp; try rfl)
   refine tT 14 ?_ rfl ?_ ?_; rotate_left; (focus intros; go_simp; try rfl); (try simp only [ly])
   (refine takeU (i := 15) rfl ?_)
   (refine takeU (i := 16) rfl ?_)
   (refine takeU (i := 17) rfl ?_; (try simp only [ly]))
   (refine takeU (i := 18) rfl ?_)
   (refine takeU (i := 19) rfl ?_)
   refine tT 20 ?_ rfl ?_ ?_; rotate_left; (focus intros; go_simp; try rfl); (try simp only [ly])
   refine tT 21 ?_ rfl ?_ ?_; rotate_left; (focus intros; go_simp; try rfl)
   refine tT 22 ?_ rfl ?_ ?_; rotate_left; (focus intros; go_simp; try rfl); (try simp only [ly])
   refine wpAnyH_done (by kernel_rfl) ?_ _
   (try simp only [ly])
   have HEND := Lib.hid (HUP.out _ hHeld)
   clear hHeld
   go_wp2
   go_ret
   exact ⟨rfl, HEND.out⟩
  refine wp_region_held_drew (S := fun w' => Below w21.heap.size w21 w') (by kernel_rfl) ?_ (fun hHeld => ?_)
  ·exact (Below.refl _ _).drew
  (refine takeH (i := 0) (v := .agg L.toArray) rfl (by kernel_rfl) (by kernel_rfl) (by kernel_rfl) (fun _ _ _ h => h) (yieldsIf_load_mid (by kernel_rfl) 35 _ rfl (B + 1) 0 rfl L _ (fun _ hb => HRG.out _ hb) Tryz.underlying35 rfl HL.out.size) (by assumption) ?_)
  refine tT 2 ?_ rfl ?_ ?_; rotate_left; (focus intros; go_simp; try rfl); (try simp only [ly])
  refine oneH (i := 1) (by kernel_rfl) rfl (fun Kc hK => ?_)
  go_simp
  go_at_call 11; refine (HRI.out _ (HUP.out _ hHeld)).mono ?_; rintro e w31 ⟨rfl, hb31⟩; (have HB31 := Lib.hid (hHeld.trans (hb31.mono hHeld.size))); clear hb31 hHeld
  go_wp2_with fail
  refine hK.out _ _ (HB31.out) (fun hHeld => ?_)
  clear hK Kc
  (try simp only [ly])
  refine tT 3 ?_ rfl ?_ ?_; rotate_left; (focus intros; go_simp; try rfl)
  refine tT 4 ?_ rfl ?_ ?_; rotate_left; (focus intros; go_simp; try rfl)
  (refine takeH (i := 5) (v := .agg L.toArray) rfl (by kernel_rfl) (by kernel_rfl) (by kernel_rfl) (fun _ _ _ h => h) (yieldsIf_load_mid (by kernel_rfl) 35 _ rfl (B + 1) 0 rfl L _ (fun _ hb => HRG.out _ hb) Tryz.underlying35 rfl HL.out.size) (by assumption) ?_; (try simp only [ly]))
  (refine takeH (i := 7) (v := .agg L.toArray) rfl (by kernel_rfl) (by kernel_rfl) (by kernel_rfl) (fun _ _ _ h => h) (yieldsIf_load_mid (by kernel_rfl) 35 _ rfl (B + 1) 0 rfl L _ (fun _ hb => HRG.out _ hb) Tryz.underlying35 rfl HL.out.size) (by assumption) ?_; (try simp only [ly]))
  refine oneH (i := 6) (by kernel_rfl) rfl (fun Kc hK => ?_)
  go_simp
  go_at_call 20; refine (HBA.out _).mono ?_; rintro e w32 ⟨rfl, hb32⟩; (have HB32 := Lib.hid (hHeld.trans (hb32.mono hHeld.size))); clear hb32 hHeld
  go_wp2_with fail
  refine hK.out _ _ (HB32.out) (fun hHeld => ?_)
  clear hK Kc
  (try simp only [ly])
  refine oneH (i := 8) (by kernel_rfl) rfl (fun Kc hK => ?_)
  go_simp
  go_at_call 21; refine (HBR.out _).mono ?_; rintro e w33 ⟨rfl, hb33⟩; (have HB33 := Lib.hid (hHeld.trans (hb33.mono hHeld.size))); clear hb33 hHeld
  go_wp2_with fail
  refine hK.out _ _ (HB33.out) (fun hHeld => ?_)
  clear hK Kc
  (try simp only [ly])
  refine tT 9 ?_ rfl ?_ ?_; rotate_left; (focus intros; go_simp; try rfl)
  refine tT 10 ?_ rfl ?_ ?_; rotate_left; (focus intros; go_simp; try rfl)
  refine tT 11 ?_ rfl ?_ ?_; rotate_left; (focus intros; go_simp; try rfl); (try simp only [ly])
  refine tT 12 ?_ rfl ?_ ?_; rotate_left; (focus intros; go_simp; try rfl)
  refine tT 13 ?_ rfl ?_ ?_; rotate_left; (focus intros; go_simp; try rfl)
  refine tT 14 ?_ rfl ?_ ?_; rotate_left; (focus intros; go_simp; try rfl); (try simp only [ly])
  (refine takeH (i := 15) (v := .agg L.toArray) rfl (by kernel_rfl) (by kernel_rfl) (by kernel_rfl) (fun _ _ _ h => h) (yieldsIf_load_mid (by kernel_rfl) 35 _ rfl (B + 1) 0 rfl L _ (fun _ hb => HRG.out _ hb) Tryz.underlying35 rfl HL.out.size) (by assumption) ?_)
  (refine takeH (i := 17) (v := .agg L.toArray) rfl (by kernel_rfl) (by kernel_rfl) (by kernel_rfl) (fun _ _ _ h => h) (yieldsIf_load_mid (by kernel_rfl) 35 _ rfl (B + 1) 0 rfl L _ (fun _ hb => HRG.out _ hb) Tryz.underlying35 rfl HL.out.size) (by assumption) ?_; (try simp only [ly]))
  refine oneH (i := 16) (by kernel_rfl) rfl (fun Kc hK => ?_)
  go_simp
  go_at_call 22; refine (HOA.out _ (HUP.out _ hHeld) (by trivial)).mono ?_; rintro e w34 ⟨rfl, hb34⟩; (have HB34 := Lib.hid (hHeld.trans (hb34.mono hHeld.size))); clear hb34 hHeld
  go_wp2_with fail
  refine hK.out _ _ (HB34.out) (fun hHeld => ?_)
  clear hK Kc
  (try simp only [ly])
  refine oneH (i := 18) (by kernel_rfl) rfl (fun Kc hK => ?_)
  go_simp
  go_at_call 23; refine (HOR.out _ (HUP.out _ hHeld) (by trivial)).mono ?_; rintro e w35 ⟨rfl, hb35⟩; (have HB35 := Lib.hid (hHeld.trans (hb35.mono hHeld.size))); clear hb35 hHeld
  go_wp2_with fail
  refine hK.out _ _ (HB35.out) (fun hHeld => ?_)
  clear hK Kc
  (try simp only [ly])
  refine tT 19 ?_ rfl ?_ ?_; rotate_left; (focus intros; go_simp; try rfl)
  refine tT 20 ?_ rfl ?_ ?_; rotate_left; (focus intros; go_simp; try rfl)
  refine tT 21 ?_ rfl ?_ ?_; rotate_left; (focus intros; go_simp; try rfl); (try simp only [ly])
  refine tT 22 ?_ rfl ?_ ?_; rotate_left; (focus intros; go_simp; try rfl); (try simp only [ly])
  refine wpAnyH_done (by kernel_rfl) ?_ _
  (try simp only [ly])
  have HEND := Lib.hid (HUP.out _ hHeld)
  clear hHeld
  go_wp2
  go_ret
  exact ⟨rfl, HEND.out⟩

end Go.Proofs.YthhfnageadckkaaGreat
