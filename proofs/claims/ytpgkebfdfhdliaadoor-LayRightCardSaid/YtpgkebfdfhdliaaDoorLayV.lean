/- Layer 22: any program that fits is laid as the document says: the walk. -/
import Derived.Test.YtpgkebfdfhdliaaDoorLayU
import Derived.Test.YtpgkebfdfhdliaaDoorHeld
namespace Go.Proofs.YtpgkebfdfhdliaaDoor
open Go.RowKit
set_option linter.unusedVariables false
set_option linter.unusedSimpArgs false
attribute [local go_sem] ite_max ite_min vite_max vite_min ext_cell ext_frozen extS_cell extS_frozen

set_option maxRecDepth 100000 in
set_option maxHeartbeats 4000000 in
theorem walk_LayRight (p : Prg) (cs : List Value) (nm fd : ByteArray) (w : World) (h : PrgAt w p cs) (hsm : ∀ s ∈ p.body, SmS s) (ht : Blanks w) : Calls Tryd.prog 3 #[.agg cs.toArray, .string nm, .string fd] w fun e w' => e = .returned (.bool true) ∧ Below w.heap.size w w' := by
  obtain ⟨Av, kv, Ab, kb, rfl, hv, hbd⟩ := h
  have HP : Hid (PrgAt w p [.string p.name, .slice Av p.vars.length kv, .slice Ab p.body.length kb]) := Lib.hid ⟨Av, kv, Ab, kb, rfl, hv, hbd⟩
  have HSM := Lib.hid hsm
  have HT := Lib.hid ht
  clear hv hbd hsm ht
  go_enter Tryd.func3, Tryd.ntmps3
  go_upto_region 1 with (fail)
  refine wp_name fun W hW => ?_
  obtain ⟨B, hB⟩ : ∃ B, B = w.heap.size := ⟨_, rfl⟩
  have hC : PrgC W B p.name Av p.vars.length kv Ab p.body.length kb := by
    refine ⟨by rw [hW.out, hB]; simp, ?_, ?_, ?_⟩
    all_goals (rw [hW.out, hB]; go_simp)
  have hbel : Below w.heap.size w W := by rw [hW.out]; (repeat' (first | (with_reducible exact Below.refl _ _) | (with_reducible assumption) | (with_reducible refine below_drewN ?_ _) | (with_reducible refine Below.drew ?_) | (with_reducible refine below_new ?_ (Nat.le_refl _) _) | (with_reducible refine Below.setCell ?_ ?_ _) | (with_reducible refine below_go ?_ (by assumption) (Nat.le_refl _)) | (simp; done) | (simp; omega) | omega))
  rw [← hB]
  have HC := Lib.hid hC
  have HB := Lib.hid hbel
  clear hW hbel hB hC
  go_wp2_with fail
  refine (awake22 _ (HT.out.on HB.out)).mono ?_
  rintro e w1 ⟨rfl, hb⟩
  have HC1 := Lib.hid (HC.out.below hb)
  have HB1 := Lib.hid (HB.out.trans (hb.mono HB.out.size))
  clear hb HC HB
  obtain ⟨lB, c0, c1, c2⟩ := HC1.out
  go_wp2_with fail
  refine (fits22_any p _ _ (HP.out.keep HB1.out) HSM.out).mono ?_
  rintro e w2 ⟨⟨b, rfl, hf⟩, hb⟩
  have HF := Lib.hid hf
  have HC2 := Lib.hid (HC1.out.below hb)
  have HB2 := Lib.hid (HB1.out.trans (hb.mono HB1.out.size))
  clear lB c0 c1 c2 hb HC1 HB1 hf
  obtain ⟨lB, c0, c1, c2⟩ := HC2.out
  cases b
  · go_wp2
    go_ret
    exact ⟨rfl, HB2.out⟩
  have hfp := (HF.out rfl).1
  have HOK : Hid (∀ v ∈ p.vars, ArrOk v) := Lib.hid (fun v hv => (hfp.vars v hv).arrOk)
  have HVL : Hid (p.vars.length ≤ 64) := Lib.hid hfp.vl
  clear hfp HF
  go_upto_region 5 with (fail)
  refine wp_region_held_drew (S := fun w' => PrgC w' B p.name Av p.vars.length kv Ab p.body.length kb) (by kernel_rfl) HC2.out (fun hHeld => ?_)
  (refine takeH (i := 0) (v := ?_) rfl (by kernel_rfl) (by kernel_rfl) (by kernel_rfl) (fun _ _ _ h => h) (Or.inl ⟨by first | kernel_rfl | rfl, ?_⟩) (by assumption) ?_; rotate_left; focus (intro w' hSw; (obtain ⟨_, _, _, _⟩ := hSw); go_simp; try (with_reducible rfl)); (try simp only [Act.put, List.setIfInBounds_toArray, List.set_cons_zero, List.set_cons_succ]))
  (refine takeH (i := 2) (v := ?_) rfl (by kernel_rfl) (by kernel_rfl) (by kernel_rfl) (fun _ _ _ h => h) (Or.inl ⟨by first | kernel_rfl | rfl, ?_⟩) (by assumption) ?_; rotate_left; focus (intro w' hSw; (obtain ⟨_, _, _, _⟩ := hSw); go_simp; try (with_reducible rfl)); (try simp only [Act.put, List.setIfInBounds_toArray, List.set_cons_zero, List.set_cons_succ]))
  refine oneH (i := 1) (by kernel_rfl) rfl (fun K hK => ?_)
  go_simp
  go_at_call 10
  have hw2 := HB2.out
  have hwd : Below w.heap.size w w2.drew := by (repeat' (first | (with_reducible exact Below.refl _ _) | (with_reducible assumption) | (with_reducible refine below_drewN ?_ _) | (with_reducible refine Below.drew ?_) | (with_reducible refine below_new ?_ (Nat.le_refl _) _) | (with_reducible refine Below.setCell ?_ ?_ _) | (with_reducible refine below_go ?_ (by assumption) (Nat.le_refl _)) | (simp; done) | (simp; omega) | omega))
  refine (layof_any p _ _ (HP.out.keep hwd) HOK.out HVL.out (HT.out.on hwd)).mono ?_
  rintro e w3 ⟨⟨v, rfl, vA, vF, rfl, hoA, hoF⟩, hb3⟩
  obtain ⟨A0, k0, hvA⟩ := own_slice hoA
  obtain ⟨A1, k1, hvF⟩ := own_slice hoF
  subst hvA hvF
  have hr1 := rowN_of hoA
  have hr2 := rowN_of hoF
  have HR1 := Lib.hid hr1.1
  have HR2 := Lib.hid hr2.1
  have HN1 := Lib.hid hr1.2
  have HN2 := Lib.hid hr2.2
  have hS3 : PrgC w3 B p.name Av p.vars.length kv Ab p.body.length kb := hHeld.below hb3
  have hB3 := hwd.trans (hb3.mono hwd.size)
  have HB3 := Lib.hid hB3
  have HC3 := Lib.hid hS3
  clear hoA hoF hr1 hr2 hb3 hHeld lB c0 c1 c2 hw2 hwd HB2 HC2
  go_wp2_with fail
  refine hK.out _ _ hS3 (fun hHeld => ?_)
  clear hK K
  (try simp only [Act.put, List.setIfInBounds_toArray, List.set_cons_zero, List.set_cons_succ])
  refine oneH (i := 3) (by kernel_rfl) rfl (fun K hK => ?_)
  go_simp
  go_at_call 11
  refine (of22_any p _ _ (HP.out.keep hB3) HOK.out HVL.out).mono ?_
  rintro e w4 ⟨⟨v, rfl, vA, vF, rfl, hoA, hoF⟩, hb4⟩
  obtain ⟨A2, k2, hvA⟩ := own_slice hoA
  obtain ⟨A3, k3, hvF⟩ := own_slice hoF
  subst hvA hvF
  have hr1 := rowN_of hoA
  have hr2 := rowN_of hoF
  have HR3 := Lib.hid hr1.1
  have HR4 := Lib.hid hr2.1
  have HR1' := Lib.hid (HR1.out.below hb4)
  have HR2' := Lib.hid (HR2.out.below hb4)
  have hS4 : PrgC w4 B p.name Av p.vars.length kv Ab p.body.length kb := HC3.out.below hb4
  have hB4 := hB3.trans (hb4.mono hB3.size)
  have HB4 := Lib.hid hB4
  have HC4 := Lib.hid hS4
  clear hoA hoF hr1 hr2 hb4 hHeld hB3 hS3 HB3 HC3 HR1 HR2
  go_wp2_with fail
  refine hK.out _ _ hS4 (fun hHeld => ?_)
  clear hK K
  (try simp only [Act.put, List.setIfInBounds_toArray, List.set_cons_zero, List.set_cons_succ])
  refine oneH (i := 4) (by kernel_rfl) rfl (fun K hK => ?_)
  go_simp
  go_at_call 9
  have hsame := same22_any _ _ (sumN p.vars : Int) w4 _ _ _ _ _ _ _ _ HR1'.out HR3.out HR2'.out HR4.out
  rw [← HN1.out, ← HN2.out] at hsame
  refine hsame.mono ?_
  rintro e w5 ⟨rfl, hb5⟩
  have hS5 : PrgC w5 B p.name Av p.vars.length kv Ab p.body.length kb := HC4.out.below hb5
  have hB5 := hB4.trans (hb5.mono hB4.size)
  have HB5 := Lib.hid hB5
  have HC5 := Lib.hid hS5
  clear hsame hb5 hHeld hB4 hS4 HB4 HC4 HR1' HR2' HR3 HR4 HN1 HN2
  go_wp2_with fail
  refine hK.out _ _ hS5 (fun hHeld => ?_)
  clear hK K
  (try simp only [Act.put, List.setIfInBounds_toArray, List.set_cons_zero, List.set_cons_succ])
  (refine takeH (i := 5) (v := ?_) rfl (by kernel_rfl) (by kernel_rfl) (by kernel_rfl) (fun _ _ _ h => h) (Or.inl ⟨by first | kernel_rfl | rfl, ?_⟩) (by assumption) ?_; rotate_left; focus (intro w' hSw; (obtain ⟨_, _, _, _⟩ := hSw); go_simp; try (with_reducible rfl)); (try simp only [Act.put, List.setIfInBounds_toArray, List.set_cons_zero, List.set_cons_succ]))
  refine wpAnyH_done (by kernel_rfl) ?_ _
  (try simp only [Act.put, List.setIfInBounds_toArray, List.set_cons_zero, List.set_cons_succ])
  clear hHeld hS5 hB5
  obtain ⟨lB, c0, c1, c2⟩ := HC5.out
  obtain ⟨ao, hao⟩ : ∃ r, atV nm 0 p.vars = r := ⟨_, rfl⟩
  obtain ⟨pn, hpn⟩ : ∃ r, pinO fd (atV nm 0 p.vars) = r := ⟨_, rfl⟩
  have HAT1 : Hid (∀ W, Below w.heap.size w W → Calls Tryd.prog 12 #[.agg #[.string p.name, .slice Av p.vars.length kv, .slice Ab p.body.length kb], .string nm] W fun e w' => e = .returned (atO ao) ∧ Below W.heap.size W w') := Lib.hid (fun W hW => by have := layat_any p _ nm W (HP.out.keep hW) HOK.out HVL.out (HT.out.on hW); rwa [hao] at this)
  have HAT2 : Hid (∀ W, Below w.heap.size w W → Calls Tryd.prog 13 #[.agg #[.string p.name, .slice Av p.vars.length kv, .slice Ab p.body.length kb], .string nm] W fun e w' => e = .returned (atO ao) ∧ Below W.heap.size W w') := Lib.hid (fun W hW => by have := at22_any p _ nm W (HP.out.keep hW) HOK.out HVL.out; rwa [hao] at this)
  have HPN1 : Hid (∀ W, Below w.heap.size w W → Calls Tryd.prog 14 #[.agg #[.string p.name, .slice Av p.vars.length kv, .slice Ab p.body.length kb], .string nm, .string fd] W fun e w' => e = .returned pn ∧ Below W.heap.size W w') := Lib.hid (fun W hW => by have := laypin_any p _ nm fd W (HP.out.keep hW) HOK.out HVL.out (HT.out.on hW); rwa [hpn] at this)
  have HPN2 : Hid (∀ W, Below w.heap.size w W → Calls Tryd.prog 15 #[.agg #[.string p.name, .slice Av p.vars.length kv, .slice Ab p.body.length kb], .string nm, .string fd] W fun e w' => e = .returned pn ∧ Below W.heap.size W w') := Lib.hid (fun W hW => by have := pin22_any p _ nm fd W (HP.out.keep hW) HOK.out HVL.out; rwa [hpn] at this)
  have HPF : Hid (∃ (a : Nat) (s : ByteArray) (t : Int) (i b : Bool), pn = .tuple #[.int .i64 a, .agg #[.string s, .int .i64 t, .bool i], .bool b]) := Lib.hid (by
    rw [← hpn]
    unfold pinO
    split
    · split
      · unfold pinK
        split
        · exact ⟨_, _, _, _, _, by push_cast; rfl⟩
        · exact ⟨0, _, _, _, _, rfl⟩
      · exact ⟨0, _, _, _, _, rfl⟩
    · exact ⟨0, _, _, _, _, rfl⟩)
  have HAF : Hid (∃ (a : Nat) (v : VarS) (b : Bool), atO ao = .tuple #[.int .i64 a, .agg v.cells.toArray, .bool b]) := Lib.hid (by
    cases ao with
    | none => exact ⟨0, varZero, false, rfl⟩
    | some x => exact ⟨_, _, _, rfl⟩)
  clear hao hpn HOK HVL HT HP HSM
  obtain ⟨a, v, ok, hav⟩ := HAF.out
  rw [hav] at HAT1 HAT2
  obtain ⟨pa, s, t, ii, pok, hpv⟩ := HPF.out
  subst hpv
  clear hav HAF HPF
  go_wp2_with fail
  refine (HAT1.out _ HB5.out).mono ?_
  rintro e w6 ⟨rfl, hb6⟩
  have HC6 := Lib.hid (HC5.out.below hb6)
  have HB6 := Lib.hid (HB5.out.trans (hb6.mono HB5.out.size))
  clear hb6 HC5 HB5 lB c0 c1 c2
  obtain ⟨lB, c0, c1, c2⟩ := HC6.out
  go_upto_region 8 with (refine wpList_store_new rfl 35 _ _ rfl w6 _ v.cells.toArray rfl rfl rfl var_size8 rfl (var_one8 v) ?_)
  refine wp_name fun W7 hW7 => ?_
  obtain ⟨X, hX⟩ : ∃ X, X = w6.heap.size := ⟨_, rfl⟩
  have hb7 : Below w6.heap.size w6 W7 := by rw [hW7.out]; (repeat' (first | (with_reducible exact Below.refl _ _) | (with_reducible assumption) | (with_reducible refine below_drewN ?_ _) | (with_reducible refine Below.drew ?_) | (with_reducible refine below_new ?_ (Nat.le_refl _) _) | (with_reducible refine Below.setCell ?_ ?_ _) | (with_reducible refine below_go ?_ (by assumption) (Nat.le_refl _)) | (simp; done) | (simp; omega) | omega))
  have hh7 : W7.heap[X]? = some (.cells v.cells.toArray 35) := by rw [hW7.out, hX]; exact heap_alloc_new _ _
  rw [← hX]
  have HC7 := Lib.hid (HC6.out.below hb7)
  have HB7 := Lib.hid (HB6.out.trans (hb7.mono HB6.out.size))
  have HX := Lib.hid hh7
  clear hW7 hb7 hX hh7 HC6 HB6 lB c0 c1 c2
  obtain ⟨lB, c0, c1, c2⟩ := HC7.out
  go_wp2_with fail
  refine (HAT2.out _ HB7.out).mono ?_
  rintro e w8 ⟨rfl, hb8⟩
  have HX8 := Lib.hid ((hb8.block X (Array.getElem?_eq_some_iff.1 HX.out).1).trans HX.out)
  have HC8 := Lib.hid (HC7.out.below hb8)
  have HB8 := Lib.hid (HB7.out.trans (hb8.mono HB7.out.size))
  clear hb8 HC7 HB7 lB c0 c1 c2 HX
  go_upto_region 9 with (refine wpList_store_new rfl 35 _ _ rfl w8 _ v.cells.toArray rfl rfl rfl var_size8 rfl (var_one8 v) ?_)
  refine wp_name fun W9 hW9 => ?_
  obtain ⟨Y, hY⟩ : ∃ Y, Y = w8.heap.size := ⟨_, rfl⟩
  have hb9 : Below w8.heap.size w8 W9 := by rw [hW9.out]; (repeat' (first | (with_reducible exact Below.refl _ _) | (with_reducible assumption) | (with_reducible refine below_drewN ?_ _) | (with_reducible refine Below.drew ?_) | (with_reducible refine below_new ?_ (Nat.le_refl _) _) | (with_reducible refine Below.setCell ?_ ?_ _) | (with_reducible refine below_go ?_ (by assumption) (Nat.le_refl _)) | (simp; done) | (simp; omega) | omega))
  have hh9 : W9.heap[Y]? = some (.cells v.cells.toArray 35) := by rw [hW9.out, hY]; exact heap_alloc_new _ _
  have hx9 := (hb9.block X (Array.getElem?_eq_some_iff.1 HX8.out).1).trans HX8.out
  rw [← hY]
  have HC9 := Lib.hid (HC8.out.below hb9)
  have HB9 := Lib.hid (HB8.out.trans (hb9.mono HB8.out.size))
  clear hW9 hb9 hY HC8 HB8 HX8
  obtain ⟨lB, c0, c1, c2⟩ := HC9.out
  have x0 : W9.cell? ⟨X, 0, none⟩ = some (.string v.name) := heap_cell 0 _ hx9 rfl
  have x1 : W9.cell? ⟨X, 1, none⟩ = some (.int .i64 v.type) := heap_cell 1 _ hx9 rfl
  have x2 : W9.cell? ⟨X, 2, none⟩ = some (.int .i64 v.sect) := heap_cell 2 _ hx9 rfl
  have x3 : W9.cell? ⟨X, 3, none⟩ = some (.bool v.arr) := heap_cell 3 _ hx9 rfl
  have x4 : W9.cell? ⟨X, 4, none⟩ = some (.int .i64 v.lo) := heap_cell 4 _ hx9 rfl
  have x5 : W9.cell? ⟨X, 5, none⟩ = some (.int .i64 v.hi) := heap_cell 5 _ hx9 rfl
  have x6 : W9.cell? ⟨X, 6, none⟩ = some (.int .i64 v.init) := heap_cell 6 _ hx9 rfl
  have x7 : W9.cell? ⟨X, 7, none⟩ = some (.int .i64 v.line) := heap_cell 7 _ hx9 rfl
  have y0 : W9.cell? ⟨Y, 0, none⟩ = some (.string v.name) := heap_cell 0 _ hh9 rfl
  have y1 : W9.cell? ⟨Y, 1, none⟩ = some (.int .i64 v.type) := heap_cell 1 _ hh9 rfl
  have y2 : W9.cell? ⟨Y, 2, none⟩ = some (.int .i64 v.sect) := heap_cell 2 _ hh9 rfl
  have y3 : W9.cell? ⟨Y, 3, none⟩ = some (.bool v.arr) := heap_cell 3 _ hh9 rfl
  have y4 : W9.cell? ⟨Y, 4, none⟩ = some (.int .i64 v.lo) := heap_cell 4 _ hh9 rfl
  have y5 : W9.cell? ⟨Y, 5, none⟩ = some (.int .i64 v.hi) := heap_cell 5 _ hh9 rfl
  have y6 : W9.cell? ⟨Y, 6, none⟩ = some (.int .i64 v.init) := heap_cell 6 _ hh9 rfl
  have y7 : W9.cell? ⟨Y, 7, none⟩ = some (.int .i64 v.line) := heap_cell 7 _ hh9 rfl
  clear hx9 hh9
  go_wp2_with fail
  refine (HPN1.out _ HB9.out).mono ?_
  rintro e w10 ⟨rfl, hb10⟩
  have HC10 := Lib.hid (HC9.out.below hb10)
  have HB10 := Lib.hid (HB9.out.trans (hb10.mono HB9.out.size))
  clear hb10 HC9 HB9 lB c0 c1 c2 x0 x1 x2 x3 x4 x5 x6 x7 y0 y1 y2 y3 y4 y5 y6 y7
  obtain ⟨lB, c0, c1, c2⟩ := HC10.out
  go_upto_region 12 with (fail)
  refine wp_name fun W11 hW11 => ?_
  obtain ⟨X2, hX2⟩ : ∃ X, X = w10.heap.size := ⟨_, rfl⟩
  have hb11 : Below w10.heap.size w10 W11 := by rw [hW11.out]; (repeat' (first | (with_reducible exact Below.refl _ _) | (with_reducible assumption) | (with_reducible refine below_drewN ?_ _) | (with_reducible refine Below.drew ?_) | (with_reducible refine below_new ?_ (Nat.le_refl _) _) | (with_reducible refine Below.setCell ?_ ?_ _) | (with_reducible refine below_go ?_ (by assumption) (Nat.le_refl _)) | (simp; done) | (simp; omega) | omega))
  have x0 : W11.cell? ⟨X2, 0, none⟩ = some (.string s) := by rw [hW11.out, hX2]; go_simp
  have x1 : W11.cell? ⟨X2, 1, none⟩ = some (.int .i64 t) := by rw [hW11.out, hX2]; go_simp
  have x2 : W11.cell? ⟨X2, 2, none⟩ = some (.bool ii) := by rw [hW11.out, hX2]; go_simp
  have lX : X2 < W11.heap.size := by rw [hW11.out, hX2]; simp
  rw [← hX2]
  have HC11 := Lib.hid (HC10.out.below hb11)
  have HB11 := Lib.hid (HB10.out.trans (hb11.mono HB10.out.size))
  clear hW11 hb11 hX2 HC10 HB10 lB c0 c1 c2
  obtain ⟨lB, c0, c1, c2⟩ := HC11.out
  go_wp2_with fail
  refine (HPN2.out _ HB11.out).mono ?_
  rintro e w12 ⟨rfl, hb12⟩
  have HB12 := Lib.hid (HB11.out.trans (hb12.mono HB11.out.size))
  have z0 := (hb12.cell (p := ⟨X2, 0, none⟩) lX).trans x0
  have z1 := (hb12.cell (p := ⟨X2, 1, none⟩) lX).trans x1
  have z2 := (hb12.cell (p := ⟨X2, 2, none⟩) lX).trans x2
  have hz := hb12.size
  clear hb12 lB c0 c1 c2 x0 x1 x2
  have hlX : X2 < w12.heap.size := by omega
  go_wp2
  go_ret
  exact ⟨rfl, by have hq := HB12.out; (repeat' (first | (with_reducible exact Below.refl _ _) | (with_reducible assumption) | (with_reducible refine below_drewN ?_ _) | (with_reducible refine Below.drew ?_) | (with_reducible refine below_new ?_ (Nat.le_refl _) _) | (with_reducible refine Below.setCell ?_ ?_ _) | (with_reducible refine below_go ?_ (by assumption) (Nat.le_refl _)) | (simp; done) | (simp; omega) | omega))⟩

end Go.Proofs.YtpgkebfdfhdliaaDoor
