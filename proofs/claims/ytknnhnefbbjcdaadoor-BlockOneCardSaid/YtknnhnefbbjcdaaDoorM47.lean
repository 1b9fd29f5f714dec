/- Merged: Layer 27: a command block asks, case by case. PRINTED by wip/tool/mkasks.py Layer 27: an MC_Reset, an MC_SetPosition, an MC_SetOverride asks, case by case. PRINTED by wip/tool/mkoth.py -/
import Derived.Test.YtknnhnefbbjcdaaDoorM46
namespace Go.Proofs.YtknnhnefbbjcdaaDoor
open Go.RowKit
set_option linter.unusedVariables false
set_option linter.unusedSimpArgs false
attribute [local go_sem] ite_max ite_min vite_max vite_min ext_cell ext_frozen


section
variable {kind : Int} {off : Nat}
theorem only7 (hk : CmdK kind) {a b : List Int} (h : OnlyAt off (rcount kind) a b) {k : Nat} (v : Int) (hk' : k < outsN kind + 7) : OnlyAt off (rcount kind) a (b.set (off + k) v) := h.set (by have := hk.cnt; omega) v
theorem stepA (hk : CmdK kind) (zs : List Int) (hl : off + (outsN kind + 7) ≤ zs.length) : StepR kind off zs (((((clrP kind off zs).set (off + (outsN kind + 5 + 1)) 0).set (off + (outsN kind + 4)) (bif true then 1 else 0)).set (off + (outsN kind + 5 + 0)) 0).set (off + (outsN kind + 5 + 0)) 1) := by
 have hc := clrP_len kind off zs
 have h1 := clrP_get (kind := kind) off zs (by omega) (j := 0) (by decide)
 have h2 := clrP_get (kind := kind) off zs (by omega) (j := 3) (by decide)
 refine StepR.cmd (only7 hk (only7 hk (only7 hk (only7 hk (clrP_only off zs hk) 0 (by omega)) _ (by omega)) 0 (by omega)) 1 (by omega)) 0 0 1 0 ?_ ?_ ?_ ?_ ⟨fun h => absurd rfl h, fun h => absurd rfl h, fun _ => rfl⟩
 ·rw [gset (by (try simp only [List.length_set]); omega), if_neg (by omega), gset (by (try simp only [List.length_set]); omega), if_neg (by omega), gset (by (try simp only [List.length_set]); omega), if_neg (by omega), gset (by (try simp only [List.length_set]); omega), if_neg (by omega)]
  exact h1
 ·rw [gset (by (try simp only [List.length_set]); omega), if_neg (by omega), gset (by (try simp only [List.length_set]); omega), if_neg (by omega), gset (by (try simp only [List.length_set]); omega), if_neg (by omega), gset (by (try simp only [List.length_set]); omega), if_neg (by omega)]
  exact h2
 ·rw [gset (by (try simp only [List.length_set]); omega), if_neg (by omega), gset (by (try simp only [List.length_set]); omega), if_neg (by omega), gset (by (try simp only [List.length_set]); omega), if_pos rfl]
  rfl
 ·rw [gset (by (try simp only [List.length_set]); omega), if_neg (by omega), gset (by (try simp only [List.length_set]); omega), if_neg (by omega), gset (by (try simp only [List.length_set]); omega), if_neg (by omega), gset (by (try simp only [List.length_set]); omega), if_pos rfl]
theorem stepB (nx : Int) (hk : CmdK kind) (zs : List Int) (hl : off + (outsN kind + 7) ≤ zs.length) : StepR kind off zs ((((((clrP kind off zs).set (off + (outsN kind + 5 + 1)) 0).set (off + (outsN kind + 1)) 1).set (off + (outsN kind + 5 + 1)) nx).set (off + (outsN kind + 5 + 0)) 0).set (off + (outsN kind + 5 + 0)) 1) := by
 have hc := clrP_len kind off zs
 have h1 := clrP_get (kind := kind) off zs (by omega) (j := 0) (by decide)
 have h2 := clrP_get (kind := kind) off zs (by omega) (j := 3) (by decide)
 have h3 := clrP_get (kind := kind) off zs (by omega) (j := 4) (by decide)
 refine StepR.cmd (only7 hk (only7 hk (only7 hk (only7 hk (only7 hk (clrP_only off zs hk) 0 (by omega)) _ (by omega)) nx (by omega)) 0 (by omega)) 1 (by omega)) 0 0 0 nx ?_ ?_ ?_ ?_ ⟨fun h => absurd rfl h, fun h => absurd rfl h, fun h => by simp at h⟩
 ·rw [gset (by (try simp only [List.length_set]); omega), if_neg (by omega), gset (by (try simp only [List.length_set]); omega), if_neg (by omega), gset (by (try simp only [List.length_set]); omega), if_neg (by omega), gset (by (try simp only [List.length_set]); omega), if_neg (by omega), gset (by (try simp only [List.length_set]); omega), if_neg (by omega)]
  exact h1
 ·rw [gset (by (try simp only [List.length_set]); omega), if_neg (by omega), gset (by (try simp only [List.length_set]); omega), if_neg (by omega), gset (by (try simp only [List.length_set]); omega), if_neg (by omega), gset (by (try simp only [List.length_set]); omega), if_neg (by omega), gset (by (try simp only [List.length_set]); omega), if_neg (by omega)]
  exact h2
 ·rw [gset (by (try simp only [List.length_set]); omega), if_neg (by omega), gset (by (try simp only [List.length_set]); omega), if_neg (by omega), gset (by (try simp only [List.length_set]); omega), if_neg (by omega), gset (by (try simp only [List.length_set]); omega), if_neg (by omega), gset (by (try simp only [List.length_set]); omega), if_neg (by omega)]
  exact h3
 ·rw [gset (by (try simp only [List.length_set]); omega), if_neg (by omega), gset (by (try simp only [List.length_set]); omega), if_neg (by omega), gset (by (try simp only [List.length_set]); omega), if_pos rfl]
theorem stepC (hk : CmdK kind) (zs : List Int) (hl : off + (outsN kind + 7) ≤ zs.length) (hi : zs[off + (outsN kind + 5 + 1)]? = some 0) : StepR kind off zs ((clrP kind off zs).set (off + (outsN kind + 5 + 0)) 0) := by
 have hc := clrP_len kind off zs
 have h1 := clrP_get (kind := kind) off zs (by omega) (j := 0) (by decide)
 have h2 := clrP_get (kind := kind) off zs (by omega) (j := 3) (by decide)
 have h3 := clrP_get (kind := kind) off zs (by omega) (j := 4) (by decide)
 obtain ⟨x, hx⟩ : ∃ x, ((clrP kind off zs).set (off + (outsN kind + 5 + 0)) 0)[off + (outsN kind + 6)]? = some x := ⟨_, List.getElem?_eq_getElem (by (try simp only [List.length_set]); omega)⟩
 refine StepR.cmd (only7 hk (clrP_only off zs hk) 0 (by omega)) 0 0 0 x ?_ ?_ ?_ hx ⟨fun h => absurd rfl h, fun h => absurd rfl h, fun h => by simp at h⟩
 ·rw [gset (by (try simp only [List.length_set]); omega), if_neg (by omega)]
  exact h1
 ·rw [gset (by (try simp only [List.length_set]); omega), if_neg (by omega)]
  exact h2
 ·rw [gset (by (try simp only [List.length_set]); omega), if_neg (by omega)]
  exact h3
theorem stepD (hk : CmdK kind) (zs : List Int) (hl : off + (outsN kind + 7) ≤ zs.length) : StepR kind off zs (zs.set (off + (outsN kind + 5 + 0)) 0) := by
 refine StepR.same (only7 hk (OnlyAt.refl _ _ _) 0 (by omega)) ?_ ?_ ?_ ?_
 ·rw [show off + outsN kind = off + (outsN kind + 0) by omega, gset (by omega), if_neg (by omega)]
 all_goals (rw [gset (by omega), if_neg (by omega)])
theorem stepE (hk : CmdK kind) (zs : List Int) (hl : off + (outsN kind + 7) ≤ zs.length) : StepR kind off zs ((zs.set (off + (outsN kind + 5 + 0)) 0).set (off + (outsN kind + 5 + 0)) 1) := by
 refine StepR.same (only7 hk (only7 hk (OnlyAt.refl _ _ _) 0 (by omega)) 1 (by omega)) ?_ ?_ ?_ ?_
 ·rw [show off + outsN kind = off + (outsN kind + 0) by omega, gset (by (try simp only [List.length_set]); omega), if_neg (by omega), gset (by omega), if_neg (by omega)]
 all_goals (rw [gset (by (try simp only [List.length_set]); omega), if_neg (by omega), gset (by omega), if_neg (by omega)])
end


set_option maxRecDepth 100000 in
set_option maxHeartbeats 4000000 in
theorem asksA_at (i kind : Int) (off cx g K qi qk ax n m : Nat) (V : Nat → Value) (sh : Value) (nx : Int) (zs : List Int) (z0 z1 i0 i1 : Int) (w0 w w1 : World) (h : AsIn w0 w w1 g K qi qk ax n V sh m nx zs kind off cx z0 z1 i0 i1) (hz1 : z1 ≠ 0) (hi0 : i0 = 0) (hok : axOk z0 ax = false) :
  Calls Tryd.prog 21 #[.pointer (some ⟨K, 0, none⟩), insV i kind (some ⟨g, off, none⟩) (outsN kind + 7) cx] w1 (AsOut w0 w g K qi qk ax n sh m zs kind off) := by
 show Calls Tryd.prog 21 #[.pointer (some ⟨K, 0, none⟩), .agg #[.int .i64 i, .int .i64 kind, .slice (some ⟨g, off, none⟩) (outsN kind + 7) cx]] w1 _
 obtain ⟨hgs, hcmd, hcap, hfit, htab, hfew, ha0, ha1, hb0, hb1⟩ := h
 have HK := Lib.hid (cmdK hcmd)
 have HCM := Lib.hid hcmd
 have HT := Lib.hid htab
 have HH := Lib.hid hgs
 have HA0 := Lib.hid ha0
 have HA1 := Lib.hid ha1
 have HB0 := Lib.hid hb0
 have HB1 := Lib.hid hb1
 have HCAP := Lib.hid hcap
 have HFIT := Lib.hid hfit
 have HLEN := Lib.hid hgs.len
 have HFEW := Lib.hid hfew
 obtain ⟨na, hna⟩ : ∃ x, axN z0 = x := ⟨_, rfl⟩
 have HN0 : Hid (axN z0 = na ∧ axOk z0 ax = false) := Lib.hid ⟨hna, hok⟩
 clear hok hna
 have HRI : Hid ((decide (z1 ≠ 0) && decide (i0 = 0)) = true) := Lib.hid (by simp [hz1, hi0])
 have u1 : (z1 != 0) = true := by simp [hz1]
 clear hgs hcmd hcap hfit htab hfew ha0 ha1 hb0 hb1 hz1 hi0
 go_enter Tryd.func21, Tryd.ntmps21
 go_upto_region 1 with (fail)
 refine wp_name fun W hW => ?_
 obtain ⟨B, hB⟩ : ∃ B, B = w1.heap.size := ⟨_, rfl⟩
 have hbel : Below w1.heap.size w1 W := by rw [hW.out]; exact belowBy
 have hlB : B < W.heap.size := by rw [hW.out, hB]; simp
 have HAW := Lib.hid (HH.out.below hbel)
 have HNB : Hid (B ≠ g ∧ B ≠ K ∧ B ≠ qi ∧ ¬ (fun b => b = g ∨ b = K ∨ b = qi ∨ b = qk) B) := Lib.hid (by
  obtain ⟨h1, h2, h3, h4⟩ := HH.out.lts
  refine ⟨by omega, by omega, by omega, ?_⟩
  rintro (e | e | e | e) <;> omega)
 have HC : Hid (∀ W', Buts (fun b => b = g ∨ b = K ∨ b = qi ∨ b = qk) W W' → W'.cell? ⟨B, 0, none⟩ = some (.int .i64 i) ∧ W'.cell? ⟨B, 1, none⟩ = some (.int .i64 kind) ∧ W'.cell? ⟨B, 2, none⟩ = some (.slice (some ⟨g, off, none⟩) (outsN kind + 7) cx) ∧ B < W'.heap.size) := Lib.hid (fun W' hW' => by
  refine ⟨(hW'.cell B 0 hlB HNB.out.2.2.2).trans ?_, (hW'.cell B 1 hlB HNB.out.2.2.2).trans ?_, (hW'.cell B 2 hlB HNB.out.2.2.2).trans ?_, Nat.lt_of_lt_of_le hlB hW'.size⟩
  all_goals (rw [hW.out, hB]; go_simp))
 (try rw [← hB])
 clear hW hbel hB hlB HH
 have HU : Hid (Buts (fun b => b = g ∨ b = K ∨ b = qi ∨ b = qk) W W) := Lib.hid (Buts.of_below (Below.refl _ _))
 obtain ⟨c0, c1, c2, lB⟩ := HC.out W HU.out
 have k4 := HAW.out.k4
 have lK := HAW.out.lts.2.1
 have HAX := Lib.hid (fun W' (hW' : Below W.heap.size W W') => (HAW.out.below hW').baxis (i := i) HT.out HCAP.out z0 na false HK.out.axis (by omega) HA0.out HN0.out.1 HN0.out.2)
 refine wp_region_ext (by kernel_rfl) (by kernel_rfl) ?_
 repeat (go_big_quiet_step ((go_at_call 18; exact ext_call (HAX.out _ (ext_below ⟨_, rfl⟩)))))
 refine wpQuiet_nil ?_
 intro wa hba
 replace hba := ext_below hba
 have HA1' := Lib.hid (HAW.out.below hba)
 have HU1' := Lib.hid (HU.out.trans (Buts.of_below hba))
 clear hba c0 c1 c2 lB k4 lK HAX HAW HU
 obtain ⟨c0, c1, c2, lB⟩ := HC.out wa HU1'.out
 go_wp2_with fail
 refine (HA1'.out.bget HT.out HCAP.out nmExecute 1 _ HK.out.exec (by omega) HA1.out).mono ?_
 rintro e wb ⟨rfl, hb⟩
 have HG1 := Lib.hid (HA1'.out.below hb)
 have HU1 := Lib.hid (HU1'.out.trans (Buts.of_below hb))
 clear hb c0 c1 c2 lB HA1' HU1'
 obtain ⟨c0, c1, c2, lB⟩ := HC.out wb HU1.out
 go_wp2_with fail
 refine (HG1.out.brises HT.out HCAP.out 1 (outsN kind + 5) _ _ _ HK.out.exec HK.out.inner (by omega) (by omega) HA1.out HB0.out HRI.out).mono ?_
 rintro e wc' ⟨rfl, hb⟩
 have HG2 := Lib.hid (HG1.out.below hb)
 have HU2 := Lib.hid (HU1.out.trans (Buts.of_below hb))
 clear hb c0 c1 c2 lB HG1 HU1
 obtain ⟨c0, c1, c2, lB⟩ := HC.out wc' HU2.out
 go_wp2_with fail
 refine (HG2.out.bclear HT.out HCAP.out HFIT.out HCM.out).mono ?_
 rintro e wd ⟨rfl, hbt, hrw⟩
 have HG3 := Lib.hid (HG2.out.next hbt hrw (by first | exact List.length_set .. | exact clrP_len _ _ _))
 have HU3 := Lib.hid (HU2.out.trans (Buts.of_but hbt (.inl rfl)))
 clear hbt hrw c0 c1 c2 lB HG2 HU2
 obtain ⟨c0, c1, c2, lB⟩ := HC.out wd HU3.out
 go_wp2_with fail
 refine (HG3.out.binner HT.out HCAP.out 1 (outsN kind + 5) HK.out.inner (by omega)).mono ?_
 rintro e we ⟨rfl, hb⟩
 have HG4 := Lib.hid (HG3.out.below hb)
 have HU4 := Lib.hid (HU3.out.trans (Buts.of_below hb))
 clear hb c0 c1 c2 lB HG3 HU3
 have hlz := HG4.out.len
 have hft := HFIT.out
 obtain ⟨zx, hzx⟩ : ∃ z, _ = some z := ⟨_, List.getElem?_eq_getElem (show off + (outsN kind + 5 + 1) < _ by rw [hlz]; omega)⟩
 have cz := HG4.out.row.cell _ _ hzx
 have cf := HG4.out.row.free (off + (outsN kind + 5 + 1))
 have lg := HG4.out.lts.1
 clear hzx hlz hft
 go_upto_region 6 with (fail)
 refine wp_name fun wf hw => ?_
 have HG5 := Lib.hid (show GS w0 w wf g K qi qk ax n V sh m nx _ from by rw [hw.out]; exact HG4.out.put _ 0)
 have HU5 : Hid (Buts (fun b => b = g ∨ b = K ∨ b = qi ∨ b = qk) W wf) := Lib.hid (by rw [hw.out]; exact HU4.out.trans (Buts.of_but ((But.refl g _).set _ _) (.inl rfl)))
 clear hw cz cf lg HG4 HU4
 obtain ⟨c0, c1, c2, lB⟩ := HC.out wf HU5.out
 go_wp2_with fail
 refine (HG5.out.bset HT.out HCAP.out HFIT.out nmError (outsN kind + 4) true HK.out.error (by omega)).mono ?_
 rintro e wg ⟨rfl, hbt, hrw⟩
 have HG6 := Lib.hid (HG5.out.next hbt hrw (by first | exact List.length_set .. | exact clrP_len _ _ _))
 have HU6 := Lib.hid (HU5.out.trans (Buts.of_but hbt (.inl rfl)))
 clear hbt hrw c0 c1 c2 lB HG5 HU5
 obtain ⟨c0, c1, c2, lB⟩ := HC.out wg HU6.out
 go_wp2_with fail
 refine (HG6.out.binner HT.out HCAP.out 0 (outsN kind + 5) HK.out.inner (by omega)).mono ?_
 rintro e wt1 ⟨rfl, hb⟩
 have HG7 := Lib.hid (HG6.out.below hb)
 have HU7 := Lib.hid (HU6.out.trans (Buts.of_below hb))
 clear hb c0 c1 c2 lB HG6 HU6
 have hlz := HG7.out.len
 have hft := HFIT.out
 obtain ⟨zx, hzx⟩ : ∃ z, _ = some z := ⟨_, List.getElem?_eq_getElem (show off + (outsN kind + 5 + 0) < _ by rw [hlz]; omega)⟩
 have cz := HG7.out.row.cell _ _ hzx
 have cf := HG7.out.row.free (off + (outsN kind + 5 + 0))
 have lg := HG7.out.lts.1
 clear hzx hlz hft
 go_upto_region 15 with (fail)
 refine wp_name fun wt2 hw => ?_
 have HG8 := Lib.hid (show GS w0 w wt2 g K qi qk ax n V sh m nx _ from by rw [hw.out]; exact HG7.out.put _ 0)
 have HU8 : Hid (Buts (fun b => b = g ∨ b = K ∨ b = qi ∨ b = qk) W wt2) := Lib.hid (by rw [hw.out]; exact HU7.out.trans (Buts.of_but ((But.refl g _).set _ _) (.inl rfl)))
 clear hw cz cf lg HG7 HU7
 obtain ⟨c0, c1, c2, lB⟩ := HC.out wt2 HU8.out
 go_wp2_with fail
 refine (HG8.out.binner HT.out HCAP.out 0 (outsN kind + 5) HK.out.inner (by omega)).mono ?_
 rintro e wt3 ⟨rfl, hb⟩
 have HG9 := Lib.hid (HG8.out.below hb)
 have HU9 := Lib.hid (HU8.out.trans (Buts.of_below hb))
 clear hb c0 c1 c2 lB HG8 HU8
 have hlz := HG9.out.len
 have hft := HFIT.out
 obtain ⟨zx, hzx⟩ : ∃ z, _ = some z := ⟨_, List.getElem?_eq_getElem (show off + (outsN kind + 5 + 0) < _ by rw [hlz]; omega)⟩
 have cz := HG9.out.row.cell _ _ hzx
 have cf := HG9.out.row.free (off + (outsN kind + 5 + 0))
 have lg := HG9.out.lts.1
 clear hzx hlz hft
 go_upto_region 17 with (fail)
 refine wp_name fun wt4 hw => ?_
 have HG10 := Lib.hid (show GS w0 w wt4 g K qi qk ax n V sh m nx _ from by rw [hw.out]; exact HG9.out.put _ 1)
 have HU10 : Hid (Buts (fun b => b = g ∨ b = K ∨ b = qi ∨ b = qk) W wt4) := Lib.hid (by rw [hw.out]; exact HU9.out.trans (Buts.of_but ((But.refl g _).set _ _) (.inl rfl)))
 clear hw cz cf lg HG9 HU9
 obtain ⟨c0, c1, c2, lB⟩ := HC.out wt4 HU10.out
 go_wp2
 refine bodyPost_end (results_none rfl _ _ _) rfl ⟨rfl, _, _, _, HG10.out.more (Nat.le_succ m), stepA HK.out zs (by rw [HLEN.out]; exact HFIT.out)⟩

set_option maxRecDepth 100000 in
set_option maxHeartbeats 4000000 in
theorem asksB_at (i kind : Int) (off cx g K qi qk ax n m k0 : Nat) (V : Nat → Value) (sh : Value) (nx : Int) (zs : List Int) (z0 z1 i0 i1 : Int) (w0 w w1 : World) (h : AsIn w0 w w1 g K qi qk ax n V sh m nx zs kind off cx z0 z1 i0 i1) (hz1 : z1 ≠ 0) (hi0 : i0 = 0) (hk0 : z0 = (k0 : Int) ∧ k0 < ax) :
  Calls Tryd.prog 21 #[.pointer (some ⟨K, 0, none⟩), insV i kind (some ⟨g, off, none⟩) (outsN kind + 7) cx] w1 (AsOut w0 w g K qi qk ax n sh m zs kind off) := by
 show Calls Tryd.prog 21 #[.pointer (some ⟨K, 0, none⟩), .agg #[.int .i64 i, .int .i64 kind, .slice (some ⟨g, off, none⟩) (outsN kind + 7) cx]] w1 _
 obtain ⟨hgs, hcmd, hcap, hfit, htab, hfew, ha0, ha1, hb0, hb1⟩ := h
 have HK := Lib.hid (cmdK hcmd)
 have HCM := Lib.hid hcmd
 have HT := Lib.hid htab
 have HH := Lib.hid hgs
 have HA0 := Lib.hid ha0
 have HA1 := Lib.hid ha1
 have HB0 := Lib.hid hb0
 have HB1 := Lib.hid hb1
 have HCAP := Lib.hid hcap
 have HFIT := Lib.hid hfit
 have HLEN := Lib.hid hgs.len
 have HFEW := Lib.hid hfew
 have HOWN0 := Lib.hid (fun b (hb : (V k0).ownBlock = some b) => hgs.ownV hk0.2 hb)
 have HN0 : Hid (axN z0 = (k0 : Int) ∧ axOk z0 ax = true ∧ k0 < ax) := Lib.hid (by
  obtain ⟨rfl, hk⟩ := hk0
  unfold axN axOk
  refine ⟨by omega, ?_, hk⟩
  rw [decide_eq_true (show (0 : Int) ≤ (k0 : Int) by omega), decide_eq_true (show (k0 : Int) < (ax : Int) by omega)]
  rfl)
 have hkI : (0 : Int) ≤ (k0 : Int) ∧ (k0 : Int) < (ax : Int) := by omega
 clear hk0
 have HRI : Hid ((decide (z1 ≠ 0) && decide (i0 = 0)) = true) := Lib.hid (by simp [hz1, hi0])
 have u1 : (z1 != 0) = true := by simp [hz1]
 clear hgs hcmd hcap hfit htab hfew ha0 ha1 hb0 hb1 hz1 hi0
 go_enter Tryd.func21, Tryd.ntmps21
 go_upto_region 1 with (fail)
 refine wp_name fun W hW => ?_
 obtain ⟨B, hB⟩ : ∃ B, B = w1.heap.size := ⟨_, rfl⟩
 have hbel : Below w1.heap.size w1 W := by rw [hW.out]; exact belowBy
 have hlB : B < W.heap.size := by rw [hW.out, hB]; simp
 have HAW := Lib.hid (HH.out.below hbel)
 have HNB : Hid (B ≠ g ∧ B ≠ K ∧ B ≠ qi ∧ ¬ (fun b => b = g ∨ b = K ∨ b = qi ∨ b = qk ∨ (V k0).ownBlock = some b) B) := Lib.hid (by
  obtain ⟨h1, h2, h3, h4⟩ := HH.out.lts
  refine ⟨by omega, by omega, by omega, ?_⟩
  rintro (e | e | e | e | e)
  ·omega
  ·omega
  ·omega
  ·omega
  ·have := HOWN0.out B e; omega)
 have HC : Hid (∀ W', Buts (fun b => b = g ∨ b = K ∨ b = qi ∨ b = qk ∨ (V k0).ownBlock = some b) W W' → W'.cell? ⟨B, 0, none⟩ = some (.int .i64 i) ∧ W'.cell? ⟨B, 1, none⟩ = some (.int .i64 kind) ∧ W'.cell? ⟨B, 2, none⟩ = some (.slice (some ⟨g, off, none⟩) (outsN kind + 7) cx) ∧ B < W'.heap.size) := Lib.hid (fun W' hW' => by
  refine ⟨(hW'.cell B 0 hlB HNB.out.2.2.2).trans ?_, (hW'.cell B 1 hlB HNB.out.2.2.2).trans ?_, (hW'.cell B 2 hlB HNB.out.2.2.2).trans ?_, Nat.lt_of_lt_of_le hlB hW'.size⟩
  all_goals (rw [hW.out, hB]; go_simp))
 (try rw [← hB])
 clear hW hbel hB hlB HH
 have HU : Hid (Buts (fun b => b = g ∨ b = K ∨ b = qi ∨ b = qk ∨ (V k0).ownBlock = some b) W W) := Lib.hid (Buts.of_below (Below.refl _ _))
 obtain ⟨c0, c1, c2, lB⟩ := HC.out W HU.out
 have k4 := HAW.out.k4
 have lK := HAW.out.lts.2.1
 have HAX := Lib.hid (fun W' (hW' : Below W.heap.size W W') => (HAW.out.below hW').baxis (i := i) HT.out HCAP.out z0 (k0 : Int) true HK.out.axis (by omega) HA0.out HN0.out.1 HN0.out.2.1)
 refine wp_region_ext (by kernel_rfl) (by kernel_rfl) ?_
 repeat (go_big_quiet_step ((go_at_call 18; exact ext_call (HAX.out _ (ext_below ⟨_, rfl⟩)))))
 refine wpQuiet_nil ?_
 intro wa hba
 replace hba := ext_below hba
 have HA1' := Lib.hid (HAW.out.below hba)
 have HU1' := Lib.hid (HU.out.trans (Buts.of_below hba))
 clear hba c0 c1 c2 lB k4 lK HAX HAW HU
 obtain ⟨c0, c1, c2, lB⟩ := HC.out wa HU1'.out
 go_wp2_with fail
 refine (HA1'.out.bget HT.out HCAP.out nmExecute 1 _ HK.out.exec (by omega) HA1.out).mono ?_
 rintro e wb ⟨rfl, hb⟩
 have HG1 := Lib.hid (HA1'.out.below hb)
 have HU1 := Lib.hid (HU1'.out.trans (Buts.of_below hb))
 clear hb c0 c1 c2 lB HA1' HU1'
 obtain ⟨c0, c1, c2, lB⟩ := HC.out wb HU1.out
 go_wp2_with fail
 refine (HG1.out.brises HT.out HCAP.out 1 (outsN kind + 5) _ _ _ HK.out.exec HK.out.inner (by omega) (by omega) HA1.out HB0.out HRI.out).mono ?_
 rintro e wc' ⟨rfl, hb⟩
 have HG2 := Lib.hid (HG1.out.below hb)
 have HU2 := Lib.hid (HU1.out.trans (Buts.of_below hb))
 clear hb c0 c1 c2 lB HG1 HU1
 obtain ⟨c0, c1, c2, lB⟩ := HC.out wc' HU2.out
 go_wp2_with fail
 refine (HG2.out.bclear HT.out HCAP.out HFIT.out HCM.out).mono ?_
 rintro e wd ⟨rfl, hbt, hrw⟩
 have HG3 := Lib.hid (HG2.out.next hbt hrw (by first | exact List.length_set .. | exact clrP_len _ _ _))
 have HU3 := Lib.hid (HU2.out.trans (Buts.of_but hbt (.inl rfl)))
 clear hbt hrw c0 c1 c2 lB HG2 HU2
 obtain ⟨c0, c1, c2, lB⟩ := HC.out wd HU3.out
 go_wp2_with fail
 refine (HG3.out.binner HT.out HCAP.out 1 (outsN kind + 5) HK.out.inner (by omega)).mono ?_
 rintro e we ⟨rfl, hb⟩
 have HG4 := Lib.hid (HG3.out.below hb)
 have HU4 := Lib.hid (HU3.out.trans (Buts.of_below hb))
 clear hb c0 c1 c2 lB HG3 HU3
 have hlz := HG4.out.len
 have hft := HFIT.out
 obtain ⟨zx, hzx⟩ : ∃ z, _ = some z := ⟨_, List.getElem?_eq_getElem (show off + (outsN kind + 5 + 1) < _ by rw [hlz]; omega)⟩
 have cz := HG4.out.row.cell _ _ hzx
 have cf := HG4.out.row.free (off + (outsN kind + 5 + 1))
 have lg := HG4.out.lts.1
 clear hzx hlz hft
 go_upto_region 6 with (fail)
 refine wp_name fun wf hw => ?_
 have HG5 := Lib.hid (show GS w0 w wf g K qi qk ax n V sh m nx _ from by rw [hw.out]; exact HG4.out.put _ 0)
 have HU5 : Hid (Buts (fun b => b = g ∨ b = K ∨ b = qi ∨ b = qk ∨ (V k0).ownBlock = some b) W wf) := Lib.hid (by rw [hw.out]; exact HU4.out.trans (Buts.of_but ((But.refl g _).set _ _) (.inl rfl)))
 clear hw cz cf lg HG4 HU4
 obtain ⟨c0, c1, c2, lB⟩ := HC.out wf HU5.out
 go_wp2_with fail
 refine (HG5.out.bset HT.out HCAP.out HFIT.out nmBusy (outsN kind + 1) true HK.out.busy (by omega)).mono ?_
 rintro e wg ⟨rfl, hbt, hrw⟩
 have HG6 := Lib.hid (HG5.out.next hbt hrw (by first | exact List.length_set .. | exact clrP_len _ _ _))
 have HU6 := Lib.hid (HU5.out.trans (Buts.of_but hbt (.inl rfl)))
 clear hbt hrw c0 c1 c2 lB HG5 HU5
 obtain ⟨c0, c1, c2, lB⟩ := HC.out wg HU6.out
 go_upto_region 9 with (fail)
 have k1 := HG6.out.k1
 have lK := HG6.out.lts.2.1
 have HIN := Lib.hid (fun W' (hW' : Below wg.heap.size wg W') => (HG6.out.below hW').binner (i := i) (off := off) HT.out HCAP.out 1 (outsN kind + 5) HK.out.inner (by omega))
 refine wp_region_ext_tail 8 (by kernel_rfl) (by kernel_rfl) ?_
 simp only [List.take_succ_cons, List.take_zero, List.drop_succ_cons, List.drop_zero]
 repeat (go_big_quiet_step ((go_at_call 25; exact ext_call (HIN.out _ (ext_below ⟨_, rfl⟩)))))
 refine wpQuiet_nil ?_
 intro wh hbh
 replace hbh := ext_below hbh
 have HG7 := Lib.hid (HG6.out.below hbh)
 have HU7 := Lib.hid (HU6.out.trans (Buts.of_below hbh))
 clear hbh c0 c1 c2 lB k1 lK HIN HG6 HU6
 have hlz := HG7.out.len
 have hft := HFIT.out
 obtain ⟨zx, hzx⟩ : ∃ z, _ = some z := ⟨_, List.getElem?_eq_getElem (show off + (outsN kind + 5 + 1) < _ by rw [hlz]; omega)⟩
 have cz := HG7.out.row.cell _ _ hzx
 have cf := HG7.out.row.free (off + (outsN kind + 5 + 1))
 have lg := HG7.out.lts.1
 clear hzx hlz hft
 go_upto_region 10 with (fail)
 refine wp_name fun w9 hw => ?_
 have HG8 := Lib.hid (show GS w0 w w9 g K qi qk ax n V sh m nx _ from by rw [hw.out]; exact HG7.out.put _ nx)
 have HU8 : Hid (Buts (fun b => b = g ∨ b = K ∨ b = qi ∨ b = qk ∨ (V k0).ownBlock = some b) W w9) := Lib.hid (by rw [hw.out]; exact HU7.out.trans (Buts.of_but ((But.refl g _).set _ _) (.inl rfl)))
 clear hw cz cf lg HG7 HU7
 obtain ⟨c0, c1, c2, lB⟩ := HC.out w9 HU8.out
 obtain ⟨zB, hzB⟩ : ∃ z : List Int, z = (((((clrP kind off zs).set (off + (outsN kind + 5 + 1)) 0).set (off + (outsN kind + 1)) 1).set (off + (outsN kind + 5 + 1)) nx) : List Int) := ⟨_, rfl⟩
 have HZB := Lib.hid hzB
 have HG9 : Hid (GS w0 w w9 g K qi qk ax n V sh m nx zB) := Lib.hid (by rw [hzB]; exact HG8.out)
 clear hzB HG8
 have k1 := HG9.out.k1
 have k2 := HG9.out.k2
 obtain ⟨lg, lK, lq, lqk⟩ := HG9.out.lts
 obtain ⟨q0, xs0, hq0, hown0⟩ := HG9.out.own k0 (HN0.out.2.2)
 have HOW := Lib.hid hown0
 have HROW : Hid (∀ b, (V k0).ownBlock = some b → w.heap.size ≤ b) := Lib.hid (fun b hb => (HOW.out.lt b hb).1)
 clear hown0
 have HR : Hid (∀ W', Buts (fun b => b = qi ∨ (V k0).ownBlock = some b) w9 W' → W'.cell? ⟨K, 1, none⟩ = some (.int .i64 nx) ∧ W'.cell? ⟨K, 2, none⟩ = some (.slice (some ⟨qi, 0, none⟩) ax ax) ∧ W'.cell? ⟨B, 0, none⟩ = some (.int .i64 i) ∧ W'.cell? ⟨B, 1, none⟩ = some (.int .i64 kind) ∧ W'.cell? ⟨B, 2, none⟩ = some (.slice (some ⟨g, off, none⟩) (outsN kind + 7) cx) ∧ K < W'.heap.size ∧ qi < W'.heap.size ∧ B < W'.heap.size) := Lib.hid (fun W' hW' => by
  have n1 : ¬ (K = qi ∨ (V k0).ownBlock = some K) := by
   rintro (e | e)
   ·exact HG9.out.ne.2.2.2.1 e
   ·have := HROW.out K e; have := HG9.out.lt.2.1; omega
  have n2 : ¬ (B = qi ∨ (V k0).ownBlock = some B) := by
   rintro (e | e)
   ·exact HNB.out.2.2.1 e
   ·exact HNB.out.2.2.2 (.inr (.inr (.inr (.inr e))))
  have hz := hW'.size
  exact ⟨(hW'.cell K 1 lK n1).trans k1, (hW'.cell K 2 lK n1).trans k2, (hW'.cell B 0 lB n2).trans c0, (hW'.cell B 1 lB n2).trans c1, (hW'.cell B 2 lB n2).trans c2, by omega, by omega, by omega⟩)
 have HQ : Hid (∀ W', Below w9.heap.size w9 W' → W'.cell? ⟨qi, k0 * 12 + 11, none⟩ = some (V k0)) := Lib.hid (fun W' hW' => (hW'.cell (p := ⟨qi, k0 * 12 + 11, none⟩) lq).trans (HG9.out.i11 k0 HN0.out.2.2))
 have HCD := Lib.hid (fun W' (hW' : Below w9.heap.size w9 W') => (HG9.out.below hW').bcommand (i := i) HT.out HCAP.out HFIT.out HCM.out nx)
 obtain ⟨ci0, cz0, hi0, hz0', hz1', hz2', hz3'⟩ := cmd_parts
 have HI := Lib.hid hi0
 have HZ0 := Lib.hid hz0'
 have HZS := Lib.hid hz1'
 have HS0 := Lib.hid hz2'
 have HBB := Lib.hid hz3'
 clear c0 c1 c2 lB k1 k2 lg lK lq lqk hi0 hz0' hz1' hz2' hz3'
 go_cut [] from 41 to 66 (fun wx => ∃ V', Hid (GS w0 w wx g K qi qk ax n V' sh (m + 1) nx zB) ∧ Hid (Buts (fun b => b = g ∨ b = K ∨ b = qi ∨ b = qk ∨ (V k0).ownBlock = some b) W wx))
 case first =>
  have HBD : Hid (Below w9.heap.size w9 w9.drew) := Lib.hid (by exact belowBy)
  refine wp_region_held_drew (S := (fun W' => W'.cell? ⟨K, 1, none⟩ = some (.int .i64 nx) ∧ W'.cell? ⟨K, 2, none⟩ = some (.slice (some ⟨qi, 0, none⟩) ax ax) ∧ W'.cell? ⟨B, 0, none⟩ = some (.int .i64 i) ∧ W'.cell? ⟨B, 1, none⟩ = some (.int .i64 kind) ∧ W'.cell? ⟨B, 2, none⟩ = some (.slice (some ⟨g, off, none⟩) (outsN kind + 7) cx) ∧ K < W'.heap.size ∧ qi < W'.heap.size ∧ B < W'.heap.size)) (by kernel_rfl) (HR.out _ (Buts.of_below HBD.out)) (fun hHeld => ?_)
  (try simp only [Act.put, List.setIfInBounds_toArray, List.set_cons_zero, List.set_cons_succ])
  (refine takeH (i := 0) (v := ?_) rfl (by kernel_rfl) (by kernel_rfl) (by kernel_rfl) (fun _ _ _ h => h) (Or.inl ⟨by first | kernel_rfl | rfl, ?_⟩) (by assumption) ?_; rotate_left; (focus (intro w' hSw; (try dsimp only at hSw); go_simp; try (with_reducible rfl))))
  (refine takeH (i := 1) (v := ?_) rfl (by kernel_rfl) (by kernel_rfl) (by kernel_rfl) (fun _ _ _ h => h) (Or.inl ⟨by first | kernel_rfl | rfl, ?_⟩) (by assumption) ?_; rotate_left; (focus (intro w' hSw; (try dsimp only at hSw); go_simp; try (with_reducible rfl))))
  (refine takeH (i := 2) (v := ?_) rfl (by kernel_rfl) (by kernel_rfl) (by kernel_rfl) (fun _ _ _ h => h) (Or.inl ⟨by first | kernel_rfl | rfl, ?_⟩) (by assumption) ?_; rotate_left; (focus (intro w' hSw; (try dsimp only at hSw); go_simp; try (with_reducible rfl))))
  (refine takeH (i := 3) (v := ?_) rfl (by kernel_rfl) (by kernel_rfl) (by kernel_rfl) (fun _ _ _ h => h) (Or.inl ⟨by first | kernel_rfl | rfl, ?_⟩) (by assumption) ?_; rotate_left; (focus (intro w' hSw; (try dsimp only at hSw); go_simp; try (with_reducible rfl))))
  (refine takeH (i := 4) (v := ?_) rfl (by kernel_rfl) (by kernel_rfl) (by kernel_rfl) (fun _ _ _ h => h) (Or.inl ⟨by first | kernel_rfl | rfl, ?_⟩) (by assumption) ?_; rotate_left; (focus (intro w' hSw; (try dsimp only at hSw); go_simp; try (with_reducible rfl))))
  (refine takeH (i := 5) (v := ?_) rfl (by kernel_rfl) (by kernel_rfl) (by kernel_rfl) (fun _ _ _ h => h) (Or.inl ⟨by first | kernel_rfl | rfl, ?_⟩) (by assumption) ?_; rotate_left; (focus (intro w' hSw; (try dsimp only at hSw); go_simp; try (with_reducible rfl))))
  (refine takeH (i := 6) (v := ?_) rfl (by kernel_rfl) (by kernel_rfl) (by kernel_rfl) (fun _ _ _ h => h) (Or.inl ⟨by first | kernel_rfl | rfl, ?_⟩) (by assumption) ?_; rotate_left; (focus (intro w' hSw; (try dsimp only at hSw); go_simp; try (with_reducible rfl))))
  (refine takeH (i := 7) (v := ?_) rfl (by kernel_rfl) (by kernel_rfl) (by kernel_rfl) (fun _ _ _ h => h) (Or.inl ⟨by first | kernel_rfl | rfl, ?_⟩) (by assumption) ?_; rotate_left; (focus (intro w' hSw; (try dsimp only at hSw); go_simp; try (with_reducible rfl))))
  (refine takeH (i := 8) (v := ?_) rfl (by kernel_rfl) (by kernel_rfl) (by kernel_rfl) (fun _ _ _ h => h) (Or.inl ⟨by first | kernel_rfl | rfl, ?_⟩) (by assumption) ?_; rotate_left; (focus (intro w' hSw; (try dsimp only at hSw); go_simp; try (with_reducible rfl))))
  (refine takeH (i := 9) (v := ?_) rfl (by kernel_rfl) (by kernel_rfl) (by kernel_rfl) (fun _ _ _ h => h) (Or.inl ⟨by first | kernel_rfl | rfl, ?_⟩) (by assumption) ?_; rotate_left; (focus (intro w' hSw; (try dsimp only at hSw); go_simp; try (with_reducible rfl))))
  (refine takeH (i := 10) (v := ?_) rfl (by kernel_rfl) (by kernel_rfl) (by kernel_rfl) (fun _ _ _ h => h) (Or.inl ⟨by first | kernel_rfl | rfl, ?_⟩) (by assumption) ?_; rotate_left; (focus (intro w' hSw; (try dsimp only at hSw); go_simp; try (with_reducible rfl))))
  (refine takeH (i := 11) (v := ?_) rfl (by kernel_rfl) (by kernel_rfl) (by kernel_rfl) (fun _ _ _ h => h) (Or.inl ⟨by first | kernel_rfl | rfl, ?_⟩) (by assumption) ?_; rotate_left; (focus (intro w' hSw; (try dsimp only at hSw); go_simp; try (with_reducible rfl))))
  (refine takeH (i := 12) (v := ?_) rfl (by kernel_rfl) (by kernel_rfl) (by kernel_rfl) (fun _ _ _ h => h) (Or.inl ⟨by first | kernel_rfl | rfl, ?_⟩) (by assumption) ?_; rotate_left; (focus (intro w' hSw; (try dsimp only at hSw); go_simp; try (with_reducible rfl))))
  (refine takeH (i := 13) (v := ?_) rfl (by kernel_rfl) (by kernel_rfl) (by kernel_rfl) (fun _ _ _ h => h) (Or.inl ⟨by first | kernel_rfl | rfl, ?_⟩) (by assumption) ?_; rotate_left; (focus (intro w' hSw; (try dsimp only at hSw); go_simp; try (with_reducible rfl))))
  (refine takeH (i := 15) (v := ?_) rfl (by kernel_rfl) (by kernel_rfl) (by kernel_rfl) (fun _ _ _ h => h) (Or.inl ⟨by first | kernel_rfl | rfl, ?_⟩) (by assumption) ?_; rotate_left; (focus (intro w' hSw; (try dsimp only at hSw); go_simp; try (with_reducible rfl))))
  (refine takeH (i := 16) (v := ?_) rfl (by kernel_rfl) (by kernel_rfl) (by kernel_rfl) (fun _ _ _ h => h) (Or.inl ⟨by first | kernel_rfl | rfl, ?_⟩) (by assumption) ?_; rotate_left; (focus (intro w' hSw; (try dsimp only at hSw); go_simp; try (with_reducible rfl))))
  (refine takeH (i := 17) (v := ?_) rfl (by kernel_rfl) (by kernel_rfl) (by kernel_rfl) (fun _ _ _ h => h) (Or.inl ⟨by first | kernel_rfl | rfl, ?_⟩) (by assumption) ?_; rotate_left; (focus (intro w' hSw; (try dsimp only at hSw); go_simp; try (with_reducible rfl))))
  (refine takeH (i := 18) (v := ?_) rfl (by kernel_rfl) (by kernel_rfl) (by kernel_rfl) (fun _ _ _ h => h) (Or.inl ⟨by first | kernel_rfl | rfl, ?_⟩) (by assumption) ?_; rotate_left; (focus (intro w' hSw; (try dsimp only at hSw); go_simp; try (with_reducible rfl))))
  (refine takeH (i := 19) (v := ?_) rfl (by kernel_rfl) (by kernel_rfl) (by kernel_rfl) (fun _ _ _ h => h) (Or.inl ⟨by first | kernel_rfl | rfl, ?_⟩) (by assumption) ?_; rotate_left; (focus (intro w' hSw; (try dsimp only at hSw); go_simp; try (with_reducible rfl))))
  (refine takeH (i := 20) (v := ?_) rfl (by kernel_rfl) (by kernel_rfl) (by kernel_rfl) (fun _ _ _ h => h) (Or.inl ⟨by first | kernel_rfl | rfl, ?_⟩) (by assumption) ?_; rotate_left; (focus (intro w' hSw; (try dsimp only at hSw); go_simp; try (with_reducible rfl))); (try simp only [Act.put, List.setIfInBounds_toArray, List.set_cons_zero, List.set_cons_succ]))
  refine twoH (i := 14) (j := 21) (by kernel_rfl) rfl rfl (fun Kc hK => ?o1) (fun Kc hK => ?o2)
  case' o1 =>
   have q11 := HQ.out _ HBD.out
   have lq := (HR.out _ (Buts.of_below HBD.out)).2.2.2.2.2.2.1
   go_simp
   refine hK.out _ _ (HR.out _ (Buts.of_below HBD.out)) (fun hHeld => ?_)
   clear hK Kc q11 lq
   (try simp only [Act.put, List.setIfInBounds_toArray, List.set_cons_zero, List.set_cons_succ])
   refine oneH (i := 21) (by kernel_rfl) rfl (fun Kc hK => ?_)
   go_simp
   go_at_call 44
   refine (HCD.out _ HBD.out).mono ?_
   rintro e w11 ⟨⟨a1, a2, a3, a4, a5, a6, rfl⟩, hb11⟩
   have HB11 := Lib.hid (HBD.out.trans (hb11.mono HBD.out.size))
   clear hb11
   go_wp2_with fail
   refine hK.out _ _ (HR.out _ (Buts.of_below HB11.out)) (fun hHeld => ?_)
   clear hK Kc
   (try simp only [Act.put, List.setIfInBounds_toArray, List.set_cons_zero, List.set_cons_succ])
   refine oneH (i := 22) (by kernel_rfl) rfl (fun Kc hK => ?_)
   go_simp
   have HB11a : Hid (Below w9.heap.size w9 (w11.alloc (.cells #[.int .i64 nx, .int .i64 a1, .int .i64 a2, .int .i64 a3, .int .i64 a4, .int .i64 a5, .int .i64 a6] 50))) := Lib.hid (below_new HB11.out (Nat.le_refl _) _)
   refine hK.out _ (w11.alloc (.cells #[.int .i64 nx, .int .i64 a1, .int .i64 a2, .int .i64 a3, .int .i64 a4, .int .i64 a5, .int .i64 a6] 50)) (HR.out _ (Buts.of_below HB11a.out)) (fun hHeld => ?_)
   clear hK Kc
   (try simp only [Act.put, List.setIfInBounds_toArray, List.set_cons_zero, List.set_cons_succ])
  case' o2 =>
   go_simp
   go_at_call 44
   refine (HCD.out _ HBD.out).mono ?_
   rintro e w11 ⟨⟨a1, a2, a3, a4, a5, a6, rfl⟩, hb11⟩
   have HB11 := Lib.hid (HBD.out.trans (hb11.mono HBD.out.size))
   clear hb11
   go_wp2_with fail
   refine hK.out _ _ (HR.out _ (Buts.of_below HB11.out)) (fun hHeld => ?_)
   clear hK Kc
   (try simp only [Act.put, List.setIfInBounds_toArray, List.set_cons_zero, List.set_cons_succ])
   refine twoH (i := 14) (j := 22) (by kernel_rfl) rfl rfl (fun Kc hK => ?o3) (fun Kc hK => ?o4)
  case' o3 =>
   have q11 := HQ.out _ HB11.out
   have lq := (HR.out _ (Buts.of_below HB11.out)).2.2.2.2.2.2.1
   go_simp
   refine hK.out _ _ (HR.out _ (Buts.of_below HB11.out)) (fun hHeld => ?_)
   clear hK Kc q11 lq
   (try simp only [Act.put, List.setIfInBounds_toArray, List.set_cons_zero, List.set_cons_succ])
   refine oneH (i := 22) (by kernel_rfl) rfl (fun Kc hK => ?_)
   go_simp
   have HB11a : Hid (Below w9.heap.size w9 (w11.alloc (.cells #[.int .i64 nx, .int .i64 a1, .int .i64 a2, .int .i64 a3, .int .i64 a4, .int .i64 a5, .int .i64 a6] 50))) := Lib.hid (below_new HB11.out (Nat.le_refl _) _)
   refine hK.out _ (w11.alloc (.cells #[.int .i64 nx, .int .i64 a1, .int .i64 a2, .int .i64 a3, .int .i64 a4, .int .i64 a5, .int .i64 a6] 50)) (HR.out _ (Buts.of_below HB11a.out)) (fun hHeld => ?_)
   clear hK Kc
   (try simp only [Act.put, List.setIfInBounds_toArray, List.set_cons_zero, List.set_cons_succ])
  case' o4 =>
   go_simp
   have HB11a : Hid (Below w9.heap.size w9 (w11.alloc (.cells #[.int .i64 nx, .int .i64 a1, .int .i64 a2, .int .i64 a3, .int .i64 a4, .int .i64 a5, .int .i64 a6] 50))) := Lib.hid (below_new HB11.out (Nat.le_refl _) _)
   refine hK.out _ (w11.alloc (.cells #[.int .i64 nx, .int .i64 a1, .int .i64 a2, .int .i64 a3, .int .i64 a4, .int .i64 a5, .int .i64 a6] 50)) (HR.out _ (Buts.of_below HB11a.out)) (fun hHeld => ?_)
   clear hK Kc
   (try simp only [Act.put, List.setIfInBounds_toArray, List.set_cons_zero, List.set_cons_succ])
   refine oneH (i := 14) (by kernel_rfl) rfl (fun Kc hK => ?_)
   have q11 := HQ.out _ HB11a.out
   have lq := (HR.out _ (Buts.of_below HB11a.out)).2.2.2.2.2.2.1
   go_simp
   refine hK.out _ _ (HR.out _ (Buts.of_below HB11a.out)) (fun hHeld => ?_)
   clear hK Kc q11 lq
   (try simp only [Act.put, List.setIfInBounds_toArray, List.set_cons_zero, List.set_cons_succ])
  all_goals
   refine oneH (i := 23) (by kernel_rfl) rfl (fun Kc hK => ?_)
   have hz11 := HB11.out.size
   have hmf := HFEW.out.2
   have hsz9 := HG9.out.size
   refine step_append_lies _ rfl (.tmp 55) (.tmp 63) 46 rfl w.heap.size 50 ci0 cz0 7 56 Tryd.underlying46 HI.out HZ0.out HS0.out HBB.out HZS.out (by decide) (V k0) q0 xs0 rfl (owns_buts HOW.out (Buts.of_below (P := fun _ => False) HB11a.out) (fun _ _ h => h)) ⟨w11.heap.size, 0, none⟩ 1 1 [.int .i64 nx, .int .i64 a1, .int .i64 a2, .int .i64 a3, .int .i64 a4, .int .i64 a5, .int .i64 a6] rfl rfl ?cq4 ?cq6 (by decide) ?cq1 ?cq2 ?cq3 (w11.heap.size + 1) ?cq5 ?_
   case cq4 =>
    intro j u hu
    have had : (⟨w11.heap.size, 0, none⟩ : Addr).add j = ⟨w11.heap.size, j, none⟩ := by cases j <;> simp [Addr.add]
    rw [had]
    exact heap_cell j _ (heap_alloc_new w11 _) (by rw [List.getElem?_toArray]; exact hu)
   case cq6 => intro u hu; simp only [List.mem_cons, List.not_mem_nil, or_false] at hu; rcases hu with rfl | rfl | rfl | rfl | rfl | rfl | rfl <;> rfl
   case cq1 => unfold maxLen; omega
   case cq2 => omega
   case cq3 => first | omega | (simp; omega)
   case cq5 => simp
   intro hh kc w12 hown hgrow hatg hlt
   have HGB : Hid (Buts (fun b => (V k0).ownBlock = some b) w9 w12) := Lib.hid (Buts.of_grown HB11a.out hgrow)
   have HNEW : Hid (w12.ownsRow w.heap.size 50 7 (.slice (some ⟨hh, 0, none⟩) (q0 + 1) kc) (q0 + 1) (xs0 ++ [.int .i64 nx, .int .i64 a1, .int .i64 a2, .int .i64 a3, .int .i64 a4, .int .i64 a5, .int .i64 a6])) := Lib.hid hown
   have HAT : Hid ((V k0).ownBlock = some hh ∨ w9.heap.size ≤ hh) := Lib.hid (hatg.imp id fun h => by omega)
   clear hown hgrow hatg hlt hz11 hmf hsz9
   have HGQ : Hid (Buts (fun b => b = qi ∨ (V k0).ownBlock = some b) w9 w12) := Lib.hid (HGB.out.mono fun b hb => .inr hb)
   refine hK.out _ _ (HR.out _ HGQ.out) (fun hHeld => ?_)
   clear hK Kc
   (try simp only [Act.put, List.setIfInBounds_toArray, List.set_cons_zero, List.set_cons_succ])
   (refine takeH (i := 24) (v := ?_) rfl (by kernel_rfl) (by kernel_rfl) (by kernel_rfl) (fun _ _ _ h => h) (Or.inl ⟨by first | kernel_rfl | rfl, ?_⟩) (by assumption) ?_; rotate_left; (focus (intro w' hSw; (try dsimp only at hSw); go_simp; try (with_reducible rfl))))
   (refine takeH (i := 25) (v := ?_) rfl (by kernel_rfl) (by kernel_rfl) (by kernel_rfl) (fun _ _ _ h => h) (Or.inl ⟨by first | kernel_rfl | rfl, ?_⟩) (by assumption) ?_; rotate_left; (focus (intro w' hSw; (try dsimp only at hSw); go_simp; try (with_reducible rfl))); (try simp only [Act.put, List.setIfInBounds_toArray, List.set_cons_zero, List.set_cons_succ]))
   have q11 : w12.cell? ⟨qi, k0 * 12 + 11, none⟩ = some (V k0) := (HGB.out.cell qi _ HG9.out.lts.2.2.1 (fun e => by have := HROW.out qi e; have := HG9.out.lt.2.2.1; omega)).trans (HG9.out.i11 k0 HN0.out.2.2)
   have qf11 : w12.frozen? ⟨qi, k0 * 12 + 11, none⟩ = false := (HGB.out.froz qi _ HG9.out.lts.2.2.1 (fun e => by have := HROW.out qi e; have := HG9.out.lt.2.2.1; omega)).trans (HG9.out.qf _)
   have lq := (HR.out _ HGQ.out).2.2.2.2.2.2.1
   refine oneH (i := 26) (by kernel_rfl) rfl (fun Kc hK => ?_)
   go_simp
   refine hK.out _ _ (HR.out _ (HGQ.out.trans (Buts.of_but ((But.refl qi _).set _ _) (.inl rfl)))) (fun hHeld => ?_)
   clear hK Kc q11 qf11 lq
   (try simp only [Act.put, List.setIfInBounds_toArray, List.set_cons_zero, List.set_cons_succ])
   refine wpAnyH_done (by kernel_rfl) ?_ _
   (try simp only [Act.put, List.setIfInBounds_toArray, List.set_cons_zero, List.set_cons_succ])
   go_wp2_with fail
   go_meet
   case rel => exact ⟨_, Lib.hid (HG9.out.asked HN0.out.2.2 HGB.out HNEW.out (by omega) HAT.out), Lib.hid ((HU8.out.trans (HGB.out.mono fun b hb => .inr (.inr (.inr (.inr hb))))).trans (Buts.of_but ((But.refl qi _).set _ _) (.inr (.inr (.inl rfl)))))⟩
 case rest =>
  obtain ⟨V', HG20, HU20⟩ := hcut
  clear HR HQ HCD HI HZ0 HZS HS0 HBB HOW HG9 HU8
  have k1 := HG20.out.k1
  have kf := HG20.out.kf 1
  have lK := HG20.out.lts.2.1
  go_upto_region 14 with (fail)
  refine wp_name fun w21 hw => ?_
  obtain ⟨nx2, HG21⟩ : ∃ x, Hid (GS w0 w w21 g K qi qk ax n V' sh (m + 1) x zB) := ⟨_, Lib.hid (by rw [hw.out]; exact HG20.out.putK _)⟩
  have HU21 : Hid (Buts (fun b => b = g ∨ b = K ∨ b = qi ∨ b = qk ∨ (V k0).ownBlock = some b) W w21) := Lib.hid (by rw [hw.out]; exact HU20.out.trans (Buts.of_but ((But.refl K _).set 1 _) (.inr (.inl rfl))))
  clear hw k1 kf lK HG20 HU20
  obtain ⟨c0, c1, c2, lB⟩ := HC.out w21 HU21.out
  go_wp2_with fail
  refine (HG21.out.binner HT.out HCAP.out 0 (outsN kind + 5) HK.out.inner (by omega)).mono ?_
  rintro e wt1 ⟨rfl, hb⟩
  have HG9 := Lib.hid (HG21.out.below hb)
  have HU9 := Lib.hid (HU21.out.trans (Buts.of_below hb))
  clear hb c0 c1 c2 lB HG21 HU21
  have hlz := HG9.out.len
  have hft := HFIT.out
  obtain ⟨zx, hzx⟩ : ∃ z, _ = some z := ⟨_, List.getElem?_eq_getElem (show off + (outsN kind + 5 + 0) < _ by rw [hlz]; omega)⟩
  have cz := HG9.out.row.cell _ _ hzx
  have cf := HG9.out.row.free (off + (outsN kind + 5 + 0))
  have lg := HG9.out.lts.1
  clear hzx hlz hft
  go_upto_region 15 with (fail)
  refine wp_name fun wt2 hw => ?_
  have HG10 := Lib.hid (show GS w0 w wt2 g K qi qk ax n V' sh (m + 1) nx2 _ from by rw [hw.out]; exact HG9.out.put _ 0)
  have HU10 : Hid (Buts (fun b => b = g ∨ b = K ∨ b = qi ∨ b = qk ∨ (V k0).ownBlock = some b) W wt2) := Lib.hid (by rw [hw.out]; exact HU9.out.trans (Buts.of_but ((But.refl g _).set _ _) (.inl rfl)))
  clear hw cz cf lg HG9 HU9
  obtain ⟨c0, c1, c2, lB⟩ := HC.out wt2 HU10.out
  go_wp2_with fail
  refine (HG10.out.binner HT.out HCAP.out 0 (outsN kind + 5) HK.out.inner (by omega)).mono ?_
  rintro e wt3 ⟨rfl, hb⟩
  have HG11 := Lib.hid (HG10.out.below hb)
  have HU11 := Lib.hid (HU10.out.trans (Buts.of_below hb))
  clear hb c0 c1 c2 lB HG10 HU10
  have hlz := HG11.out.len
  have hft := HFIT.out
  obtain ⟨zx, hzx⟩ : ∃ z, _ = some z := ⟨_, List.getElem?_eq_getElem (show off + (outsN kind + 5 + 0) < _ by rw [hlz]; omega)⟩
  have cz := HG11.out.row.cell _ _ hzx
  have cf := HG11.out.row.free (off + (outsN kind + 5 + 0))
  have lg := HG11.out.lts.1
  clear hzx hlz hft
  go_upto_region 17 with (fail)
  refine wp_name fun wt4 hw => ?_
  have HG12 := Lib.hid (show GS w0 w wt4 g K qi qk ax n V' sh (m + 1) nx2 _ from by rw [hw.out]; exact HG11.out.put _ 1)
  have HU12 : Hid (Buts (fun b => b = g ∨ b = K ∨ b = qi ∨ b = qk ∨ (V k0).ownBlock = some b) W wt4) := Lib.hid (by rw [hw.out]; exact HU11.out.trans (Buts.of_but ((But.refl g _).set _ _) (.inl rfl)))
  clear hw cz cf lg HG11 HU11
  obtain ⟨c0, c1, c2, lB⟩ := HC.out wt4 HU12.out
  by_cases h22 : kind = 22
  ·have u22 : (kind == 22) = true := by simp [h22]
   clear h22
   have k5 := HG12.out.k5
   obtain ⟨lg, lK, lq, lqk⟩ := HG12.out.lts
   obtain ⟨kv, hkv⟩ := HG12.out.kb k0 HN0.out.2.2
   have kf := HG12.out.bf k0
   clear lg lq
   go_wp2
   refine bodyPost_end (results_none rfl _ _ _) rfl ⟨rfl, _, _, _, (HG12.out).putB k0 true, by rw [HZB.out]; exact stepB nx HK.out zs (by rw [HLEN.out]; exact HFIT.out)⟩
  ·have u22 : (kind == 22) = false := by simp [h22]
   clear h22
   go_wp2
   refine bodyPost_end (results_none rfl _ _ _) rfl ⟨rfl, _, _, _, HG12.out, by rw [HZB.out]; exact stepB nx HK.out zs (by rw [HLEN.out]; exact HFIT.out)⟩

set_option maxRecDepth 100000 in
set_option maxHeartbeats 4000000 in
theorem asksC_at (i kind : Int) (off cx g K qi qk ax n m : Nat) (V : Nat → Value) (sh : Value) (nx : Int) (zs : List Int) (z0 z1 i0 i1 : Int) (w0 w w1 : World) (h : AsIn w0 w w1 g K qi qk ax n V sh m nx zs kind off cx z0 z1 i0 i1) (hz1 : z1 = 0) (hi1 : i1 = 0) :
  Calls Tryd.prog 21 #[.pointer (some ⟨K, 0, none⟩), insV i kind (some ⟨g, off, none⟩) (outsN kind + 7) cx] w1 (AsOut w0 w g K qi qk ax n sh m zs kind off) := by
 show Calls Tryd.prog 21 #[.pointer (some ⟨K, 0, none⟩), .agg #[.int .i64 i, .int .i64 kind, .slice (some ⟨g, off, none⟩) (outsN kind + 7) cx]] w1 _
 obtain ⟨hgs, hcmd, hcap, hfit, htab, hfew, ha0, ha1, hb0, hb1⟩ := h
 have HK := Lib.hid (cmdK hcmd)
 have HCM := Lib.hid hcmd
 have HT := Lib.hid htab
 have HH := Lib.hid hgs
 have HA0 := Lib.hid ha0
 have HA1 := Lib.hid ha1
 have HB0 := Lib.hid hb0
 have HB1 := Lib.hid hb1
 have HCAP := Lib.hid hcap
 have HFIT := Lib.hid hfit
 have HLEN := Lib.hid hgs.len
 have HFEW := Lib.hid hfew
 obtain ⟨na, hna⟩ : ∃ x, axN z0 = x := ⟨_, rfl⟩
 obtain ⟨ok, hok⟩ : ∃ b, axOk z0 ax = b := ⟨_, rfl⟩
 have HN0 : Hid (axN z0 = na ∧ axOk z0 ax = ok) := Lib.hid ⟨hna, hok⟩
 clear hok hna
 have HRI : Hid ((decide (z1 ≠ 0) && decide (i0 = 0)) = false) := Lib.hid (by simp [hz1])
 subst hz1
 have HI1 := Lib.hid hi1
 clear hi1
 clear hgs hcmd hcap hfit htab hfew ha0 ha1 hb0 hb1
 go_enter Tryd.func21, Tryd.ntmps21
 go_upto_region 1 with (fail)
 refine wp_name fun W hW => ?_
 obtain ⟨B, hB⟩ : ∃ B, B = w1.heap.size := ⟨_, rfl⟩
 have hbel : Below w1.heap.size w1 W := by rw [hW.out]; exact belowBy
 have hlB : B < W.heap.size := by rw [hW.out, hB]; simp
 have HAW := Lib.hid (HH.out.below hbel)
 have HNB : Hid (B ≠ g ∧ B ≠ K ∧ B ≠ qi ∧ ¬ (fun b => b = g ∨ b = K ∨ b = qi ∨ b = qk) B) := Lib.hid (by
  obtain ⟨h1, h2, h3, h4⟩ := HH.out.lts
  refine ⟨by omega, by omega, by omega, ?_⟩
  rintro (e | e | e | e) <;> omega)
 have HC : Hid (∀ W', Buts (fun b => b = g ∨ b = K ∨ b = qi ∨ b = qk) W W' → W'.cell? ⟨B, 0, none⟩ = some (.int .i64 i) ∧ W'.cell? ⟨B, 1, none⟩ = some (.int .i64 kind) ∧ W'.cell? ⟨B, 2, none⟩ = some (.slice (some ⟨g, off, none⟩) (outsN kind + 7) cx) ∧ B < W'.heap.size) := Lib.hid (fun W' hW' => by
  refine ⟨(hW'.cell B 0 hlB HNB.out.2.2.2).trans ?_, (hW'.cell B 1 hlB HNB.out.2.2.2).trans ?_, (hW'.cell B 2 hlB HNB.out.2.2.2).trans ?_, Nat.lt_of_lt_of_le hlB hW'.size⟩
  all_goals (rw [hW.out, hB]; go_simp))
 (try rw [← hB])
 clear hW hbel hB hlB HH
 have HU : Hid (Buts (fun b => b = g ∨ b = K ∨ b = qi ∨ b = qk) W W) := Lib.hid (Buts.of_below (Below.refl _ _))
 obtain ⟨c0, c1, c2, lB⟩ := HC.out W HU.out
 have k4 := HAW.out.k4
 have lK := HAW.out.lts.2.1
 have HAX := Lib.hid (fun W' (hW' : Below W.heap.size W W') => (HAW.out.below hW').baxis (i := i) HT.out HCAP.out z0 na ok HK.out.axis (by omega) HA0.out HN0.out.1 HN0.out.2)
 refine wp_region_ext (by kernel_rfl) (by kernel_rfl) ?_
 repeat (go_big_quiet_step ((go_at_call 18; exact ext_call (HAX.out _ (ext_below ⟨_, rfl⟩)))))
 refine wpQuiet_nil ?_
 intro wa hba
 replace hba := ext_below hba
 have HA1' := Lib.hid (HAW.out.below hba)
 have HU1' := Lib.hid (HU.out.trans (Buts.of_below hba))
 clear hba c0 c1 c2 lB k4 lK HAX HAW HU
 obtain ⟨c0, c1, c2, lB⟩ := HC.out wa HU1'.out
 go_wp2_with fail
 refine (HA1'.out.bget HT.out HCAP.out nmExecute 1 _ HK.out.exec (by omega) HA1.out).mono ?_
 rintro e wb ⟨rfl, hb⟩
 have HG1 := Lib.hid (HA1'.out.below hb)
 have HU1 := Lib.hid (HU1'.out.trans (Buts.of_below hb))
 clear hb c0 c1 c2 lB HA1' HU1'
 obtain ⟨c0, c1, c2, lB⟩ := HC.out wb HU1.out
 go_wp2_with fail
 refine (HG1.out.brises HT.out HCAP.out 1 (outsN kind + 5) _ _ _ HK.out.exec HK.out.inner (by omega) (by omega) HA1.out HB0.out HRI.out).mono ?_
 rintro e wc' ⟨rfl, hb⟩
 have HG2 := Lib.hid (HG1.out.below hb)
 have HU2 := Lib.hid (HU1.out.trans (Buts.of_below hb))
 clear hb c0 c1 c2 lB HG1 HU1
 obtain ⟨c0, c1, c2, lB⟩ := HC.out wc' HU2.out
 go_wp2_with fail
 refine (HG2.out.binner HT.out HCAP.out 1 (outsN kind + 5) HK.out.inner (by omega)).mono ?_
 rintro e wd ⟨rfl, hb⟩
 have HG3 := Lib.hid (HG2.out.below hb)
 have HU3 := Lib.hid (HU2.out.trans (Buts.of_below hb))
 clear hb c0 c1 c2 lB HG2 HU2
 have cz := HG3.out.row.cell _ _ HB1.out
 have lg := HG3.out.lts.1
 rw [HI1.out] at cz
 obtain ⟨c0, c1, c2, lB⟩ := HC.out wd HU3.out
 go_wp2_with fail
 refine (HG3.out.bclear HT.out HCAP.out HFIT.out HCM.out).mono ?_
 rintro e we ⟨rfl, hbt, hrw⟩
 have HG4 := Lib.hid (HG3.out.next hbt hrw (clrP_len _ _ _))
 have HU4 := Lib.hid (HU3.out.trans (Buts.of_but hbt (.inl rfl)))
 clear hbt hrw c0 c1 c2 lB cz lg HG3 HU3
 obtain ⟨c0, c1, c2, lB⟩ := HC.out we HU4.out
 go_wp2_with fail
 refine (HG4.out.binner HT.out HCAP.out 0 (outsN kind + 5) HK.out.inner (by omega)).mono ?_
 rintro e wt1 ⟨rfl, hb⟩
 have HG5 := Lib.hid (HG4.out.below hb)
 have HU5 := Lib.hid (HU4.out.trans (Buts.of_below hb))
 clear hb c0 c1 c2 lB HG4 HU4
 have hlz := HG5.out.len
 have hft := HFIT.out
 obtain ⟨zx, hzx⟩ : ∃ z, _ = some z := ⟨_, List.getElem?_eq_getElem (show off + (outsN kind + 5 + 0) < _ by rw [hlz]; omega)⟩
 have cz := HG5.out.row.cell _ _ hzx
 have cf := HG5.out.row.free (off + (outsN kind + 5 + 0))
 have lg := HG5.out.lts.1
 clear hzx hlz hft
 go_upto_region 15 with (fail)
 refine wp_name fun wt2 hw => ?_
 have HG6 := Lib.hid (show GS w0 w wt2 g K qi qk ax n V sh m nx _ from by rw [hw.out]; exact HG5.out.put _ 0)
 have HU6 : Hid (Buts (fun b => b = g ∨ b = K ∨ b = qi ∨ b = qk) W wt2) := Lib.hid (by rw [hw.out]; exact HU5.out.trans (Buts.of_but ((But.refl g _).set _ _) (.inl rfl)))
 clear hw cz cf lg HG5 HU5
 obtain ⟨c0, c1, c2, lB⟩ := HC.out wt2 HU6.out
 go_wp2
 refine bodyPost_end (results_none rfl _ _ _) rfl ⟨rfl, _, _, _, HG6.out.more (Nat.le_succ m), stepC HK.out zs (by rw [HLEN.out]; exact HFIT.out) (by rw [HB1.out, HI1.out])⟩

set_option maxRecDepth 100000 in
set_option maxHeartbeats 4000000 in
theorem asksD_at (i kind : Int) (off cx g K qi qk ax n m : Nat) (V : Nat → Value) (sh : Value) (nx : Int) (zs : List Int) (z0 z1 i0 i1 : Int) (w0 w w1 : World) (h : AsIn w0 w w1 g K qi qk ax n V sh m nx zs kind off cx z0 z1 i0 i1) (hz1 : z1 = 0) (hi1 : i1 ≠ 0) :
  Calls Tryd.prog 21 #[.pointer (some ⟨K, 0, none⟩), insV i kind (some ⟨g, off, none⟩) (outsN kind + 7) cx] w1 (AsOut w0 w g K qi qk ax n sh m zs kind off) := by
 show Calls Tryd.prog 21 #[.pointer (some ⟨K, 0, none⟩), .agg #[.int .i64 i, .int .i64 kind, .slice (some ⟨g, off, none⟩) (outsN kind + 7) cx]] w1 _
 obtain ⟨hgs, hcmd, hcap, hfit, htab, hfew, ha0, ha1, hb0, hb1⟩ := h
 have HK := Lib.hid (cmdK hcmd)
 have HCM := Lib.hid hcmd
 have HT := Lib.hid htab
 have HH := Lib.hid hgs
 have HA0 := Lib.hid ha0
 have HA1 := Lib.hid ha1
 have HB0 := Lib.hid hb0
 have HB1 := Lib.hid hb1
 have HCAP := Lib.hid hcap
 have HFIT := Lib.hid hfit
 have HLEN := Lib.hid hgs.len
 have HFEW := Lib.hid hfew
 obtain ⟨na, hna⟩ : ∃ x, axN z0 = x := ⟨_, rfl⟩
 obtain ⟨ok, hok⟩ : ∃ b, axOk z0 ax = b := ⟨_, rfl⟩
 have HN0 : Hid (axN z0 = na ∧ axOk z0 ax = ok) := Lib.hid ⟨hna, hok⟩
 clear hok hna
 have HRI : Hid ((decide (z1 ≠ 0) && decide (i0 = 0)) = false) := Lib.hid (by simp [hz1])
 subst hz1
 have ui1 : (i1 == 0) = false := by simp [hi1]
 clear hi1
 clear hgs hcmd hcap hfit htab hfew ha0 ha1 hb0 hb1
 go_enter Tryd.func21, Tryd.ntmps21
 go_upto_region 1 with (fail)
 refine wp_name fun W hW => ?_
 obtain ⟨B, hB⟩ : ∃ B, B = w1.heap.size := ⟨_, rfl⟩
 have hbel : Below w1.heap.size w1 W := by rw [hW.out]; exact belowBy
 have hlB : B < W.heap.size := by rw [hW.out, hB]; simp
 have HAW := Lib.hid (HH.out.below hbel)
 have HNB : Hid (B ≠ g ∧ B ≠ K ∧ B ≠ qi ∧ ¬ (fun b => b = g ∨ b = K ∨ b = qi ∨ b = qk) B) := Lib.hid (by
  obtain ⟨h1, h2, h3, h4⟩ := HH.out.lts
  refine ⟨by omega, by omega, by omega, ?_⟩
  rintro (e | e | e | e) <;> omega)
 have HC : Hid (∀ W', Buts (fun b => b = g ∨ b = K ∨ b = qi ∨ b = qk) W W' → W'.cell? ⟨B, 0, none⟩ = some (.int .i64 i) ∧ W'.cell? ⟨B, 1, none⟩ = some (.int .i64 kind) ∧ W'.cell? ⟨B, 2, none⟩ = some (.slice (some ⟨g, off, none⟩) (outsN kind + 7) cx) ∧ B < W'.heap.size) := Lib.hid (fun W' hW' => by
  refine ⟨(hW'.cell B 0 hlB HNB.out.2.2.2).trans ?_, (hW'.cell B 1 hlB HNB.out.2.2.2).trans ?_, (hW'.cell B 2 hlB HNB.out.2.2.2).trans ?_, Nat.lt_of_lt_of_le hlB hW'.size⟩
  all_goals (rw [hW.out, hB]; go_simp))
 (try rw [← hB])
 clear hW hbel hB hlB HH
 have HU : Hid (Buts (fun b => b = g ∨ b = K ∨ b = qi ∨ b = qk) W W) := Lib.hid (Buts.of_below (Below.refl _ _))
 obtain ⟨c0, c1, c2, lB⟩ := HC.out W HU.out
 have k4 := HAW.out.k4
 have lK := HAW.out.lts.2.1
 have HAX := Lib.hid (fun W' (hW' : Below W.heap.size W W') => (HAW.out.below hW').baxis (i := i) HT.out HCAP.out z0 na ok HK.out.axis (by omega) HA0.out HN0.out.1 HN0.out.2)
 refine wp_region_ext (by kernel_rfl) (by kernel_rfl) ?_
 repeat (go_big_quiet_step ((go_at_call 18; exact ext_call (HAX.out _ (ext_below ⟨_, rfl⟩)))))
 refine wpQuiet_nil ?_
 intro wa hba
 replace hba := ext_below hba
 have HA1' := Lib.hid (HAW.out.below hba)
 have HU1' := Lib.hid (HU.out.trans (Buts.of_below hba))
 clear hba c0 c1 c2 lB k4 lK HAX HAW HU
 obtain ⟨c0, c1, c2, lB⟩ := HC.out wa HU1'.out
 go_wp2_with fail
 refine (HA1'.out.bget HT.out HCAP.out nmExecute 1 _ HK.out.exec (by omega) HA1.out).mono ?_
 rintro e wb ⟨rfl, hb⟩
 have HG1 := Lib.hid (HA1'.out.below hb)
 have HU1 := Lib.hid (HU1'.out.trans (Buts.of_below hb))
 clear hb c0 c1 c2 lB HA1' HU1'
 obtain ⟨c0, c1, c2, lB⟩ := HC.out wb HU1.out
 go_wp2_with fail
 refine (HG1.out.brises HT.out HCAP.out 1 (outsN kind + 5) _ _ _ HK.out.exec HK.out.inner (by omega) (by omega) HA1.out HB0.out HRI.out).mono ?_
 rintro e wc' ⟨rfl, hb⟩
 have HG2 := Lib.hid (HG1.out.below hb)
 have HU2 := Lib.hid (HU1.out.trans (Buts.of_below hb))
 clear hb c0 c1 c2 lB HG1 HU1
 obtain ⟨c0, c1, c2, lB⟩ := HC.out wc' HU2.out
 go_wp2_with fail
 refine (HG2.out.binner HT.out HCAP.out 1 (outsN kind + 5) HK.out.inner (by omega)).mono ?_
 rintro e wd ⟨rfl, hb⟩
 have HG3 := Lib.hid (HG2.out.below hb)
 have HU3 := Lib.hid (HU2.out.trans (Buts.of_below hb))
 clear hb c0 c1 c2 lB HG2 HU2
 have cz := HG3.out.row.cell _ _ HB1.out
 have lg := HG3.out.lts.1
 obtain ⟨c0, c1, c2, lB⟩ := HC.out wd HU3.out
 go_wp2_with fail
 refine (HG3.out.binner HT.out HCAP.out 0 (outsN kind + 5) HK.out.inner (by omega)).mono ?_
 rintro e wt1 ⟨rfl, hb⟩
 have HG4 := Lib.hid (HG3.out.below hb)
 have HU4 := Lib.hid (HU3.out.trans (Buts.of_below hb))
 clear hb c0 c1 c2 lB cz lg HG3 HU3
 have hlz := HG4.out.len
 have hft := HFIT.out
 obtain ⟨zx, hzx⟩ : ∃ z, _ = some z := ⟨_, List.getElem?_eq_getElem (show off + (outsN kind + 5 + 0) < _ by rw [hlz]; omega)⟩
 have cz := HG4.out.row.cell _ _ hzx
 have cf := HG4.out.row.free (off + (outsN kind + 5 + 0))
 have lg := HG4.out.lts.1
 clear hzx hlz hft
 go_upto_region 15 with (fail)
 refine wp_name fun wt2 hw => ?_
 have HG5 := Lib.hid (show GS w0 w wt2 g K qi qk ax n V sh m nx _ from by rw [hw.out]; exact HG4.out.put _ 0)
 have HU5 : Hid (Buts (fun b => b = g ∨ b = K ∨ b = qi ∨ b = qk) W wt2) := Lib.hid (by rw [hw.out]; exact HU4.out.trans (Buts.of_but ((But.refl g _).set _ _) (.inl rfl)))
 clear hw cz cf lg HG4 HU4
 obtain ⟨c0, c1, c2, lB⟩ := HC.out wt2 HU5.out
 go_wp2
 refine bodyPost_end (results_none rfl _ _ _) rfl ⟨rfl, _, _, _, HG5.out.more (Nat.le_succ m), stepD HK.out zs (by rw [HLEN.out]; exact HFIT.out)⟩

set_option maxRecDepth 100000 in
set_option maxHeartbeats 4000000 in
theorem asksE_at (i kind : Int) (off cx g K qi qk ax n m : Nat) (V : Nat → Value) (sh : Value) (nx : Int) (zs : List Int) (z0 z1 i0 i1 : Int) (w0 w w1 : World) (h : AsIn w0 w w1 g K qi qk ax n V sh m nx zs kind off cx z0 z1 i0 i1) (hz1 : z1 ≠ 0) (hi0 : i0 ≠ 0) (hok : axOk z0 ax = false) :
  Calls Tryd.prog 21 #[.pointer (some ⟨K, 0, none⟩), insV i kind (some ⟨g, off, none⟩) (outsN kind + 7) cx] w1 (AsOut w0 w g K qi qk ax n sh m zs kind off) := by
 show Calls Tryd.prog 21 #[.pointer (some ⟨K, 0, none⟩), .agg #[.int .i64 i, .int .i64 kind, .slice (some ⟨g, off, none⟩) (outsN kind + 7) cx]] w1 _
 obtain ⟨hgs, hcmd, hcap, hfit, htab, hfew, ha0, ha1, hb0, hb1⟩ := h
 have HK := Lib.hid (cmdK hcmd)
 have HCM := Lib.hid hcmd
 have HT := Lib.hid htab
 have HH := Lib.hid hgs
 have HA0 := Lib.hid ha0
 have HA1 := Lib.hid ha1
 have HB0 := Lib.hid hb0
 have HB1 := Lib.hid hb1
 have HCAP := Lib.hid hcap
 have HFIT := Lib.hid hfit
 have HLEN := Lib.hid hgs.len
 have HFEW := Lib.hid hfew
 obtain ⟨na, hna⟩ : ∃ x, axN z0 = x := ⟨_, rfl⟩
 have HN0 : Hid (axN z0 = na ∧ axOk z0 ax = false) := Lib.hid ⟨hna, hok⟩
 clear hok hna
 have HRI : Hid ((decide (z1 ≠ 0) && decide (i0 = 0)) = false) := Lib.hid (by simp [hi0])
 have u1 : (z1 != 0) = true := by simp [hz1]
 clear hgs hcmd hcap hfit htab hfew ha0 ha1 hb0 hb1 hz1 hi0
 go_enter Tryd.func21, Tryd.ntmps21
 go_upto_region 1 with (fail)
 refine wp_name fun W hW => ?_
 obtain ⟨B, hB⟩ : ∃ B, B = w1.heap.size := ⟨_, rfl⟩
 have hbel : Below w1.heap.size w1 W := by rw [hW.out]; exact belowBy
 have hlB : B < W.heap.size := by rw [hW.out, hB]; simp
 have HAW := Lib.hid (HH.out.below hbel)
 have HNB : Hid (B ≠ g ∧ B ≠ K ∧ B ≠ qi ∧ ¬ (fun b => b = g ∨ b = K ∨ b = qi ∨ b = qk) B) := Lib.hid (by
  obtain ⟨h1, h2, h3, h4⟩ := HH.out.lts
  refine ⟨by omega, by omega, by omega, ?_⟩
  rintro (e | e | e | e) <;> omega)
 have HC : Hid (∀ W', Buts (fun b => b = g ∨ b = K ∨ b = qi ∨ b = qk) W W' → W'.cell? ⟨B, 0, none⟩ = some (.int .i64 i) ∧ W'.cell? ⟨B, 1, none⟩ = some (.int .i64 kind) ∧ W'.cell? ⟨B, 2, none⟩ = some (.slice (some ⟨g, off, none⟩) (outsN kind + 7) cx) ∧ B < W'.heap.size) := Lib.hid (fun W' hW' => by
  refine ⟨(hW'.cell B 0 hlB HNB.out.2.2.2).trans ?_, (hW'.cell B 1 hlB HNB.out.2.2.2).trans ?_, (hW'.cell B 2 hlB HNB.out.2.2.2).trans ?_, Nat.lt_of_lt_of_le hlB hW'.size⟩
  all_goals (rw [hW.out, hB]; go_simp))
 (try rw [← hB])
 clear hW hbel hB hlB HH
 have HU : Hid (Buts (fun b => b = g ∨ b = K ∨ b = qi ∨ b = qk) W W) := Lib.hid (Buts.of_below (Below.refl _ _))
 obtain ⟨c0, c1, c2, lB⟩ := HC.out W HU.out
 have k4 := HAW.out.k4
 have lK := HAW.out.lts.2.1
 have HAX := Lib.hid (fun W' (hW' : Below W.heap.size W W') => (HAW.out.below hW').baxis (i := i) HT.out HCAP.out z0 na false HK.out.axis (by omega) HA0.out HN0.out.1 HN0.out.2)
 refine wp_region_ext (by kernel_rfl) (by kernel_rfl) ?_
 repeat (go_big_quiet_step ((go_at_call 18; exact ext_call (HAX.out _ (ext_below ⟨_, rfl⟩)))))
 refine wpQuiet_nil ?_
 intro wa hba
 replace hba := ext_below hba
 have HA1' := Lib.hid (HAW.out.below hba)
 have HU1' := Lib.hid (HU.out.trans (Buts.of_below hba))
 clear hba c0 c1 c2 lB k4 lK HAX HAW HU
 obtain ⟨c0, c1, c2, lB⟩ := HC.out wa HU1'.out
 go_wp2_with fail
 refine (HA1'.out.bget HT.out HCAP.out nmExecute 1 _ HK.out.exec (by omega) HA1.out).mono ?_
 rintro e wb ⟨rfl, hb⟩
 have HG1 := Lib.hid (HA1'.out.below hb)
 have HU1 := Lib.hid (HU1'.out.trans (Buts.of_below hb))
 clear hb c0 c1 c2 lB HA1' HU1'
 obtain ⟨c0, c1, c2, lB⟩ := HC.out wb HU1.out
 go_wp2_with fail
 refine (HG1.out.brises HT.out HCAP.out 1 (outsN kind + 5) _ _ _ HK.out.exec HK.out.inner (by omega) (by omega) HA1.out HB0.out HRI.out).mono ?_
 rintro e wc' ⟨rfl, hb⟩
 have HG2 := Lib.hid (HG1.out.below hb)
 have HU2 := Lib.hid (HU1.out.trans (Buts.of_below hb))
 clear hb c0 c1 c2 lB HG1 HU1
 obtain ⟨c0, c1, c2, lB⟩ := HC.out wc' HU2.out
 go_wp2_with fail
 refine (HG2.out.binner HT.out HCAP.out 0 (outsN kind + 5) HK.out.inner (by omega)).mono ?_
 rintro e wt1 ⟨rfl, hb⟩
 have HG3 := Lib.hid (HG2.out.below hb)
 have HU3 := Lib.hid (HU2.out.trans (Buts.of_below hb))
 clear hb c0 c1 c2 lB HG2 HU2
 have hlz := HG3.out.len
 have hft := HFIT.out
 obtain ⟨zx, hzx⟩ : ∃ z, _ = some z := ⟨_, List.getElem?_eq_getElem (show off + (outsN kind + 5 + 0) < _ by rw [hlz]; omega)⟩
 have cz := HG3.out.row.cell _ _ hzx
 have cf := HG3.out.row.free (off + (outsN kind + 5 + 0))
 have lg := HG3.out.lts.1
 clear hzx hlz hft
 go_upto_region 15 with (fail)
 refine wp_name fun wt2 hw => ?_
 have HG4 := Lib.hid (show GS w0 w wt2 g K qi qk ax n V sh m nx _ from by rw [hw.out]; exact HG3.out.put _ 0)
 have HU4 : Hid (Buts (fun b => b = g ∨ b = K ∨ b = qi ∨ b = qk) W wt2) := Lib.hid (by rw [hw.out]; exact HU3.out.trans (Buts.of_but ((But.refl g _).set _ _) (.inl rfl)))
 clear hw cz cf lg HG3 HU3
 obtain ⟨c0, c1, c2, lB⟩ := HC.out wt2 HU4.out
 go_wp2_with fail
 refine (HG4.out.binner HT.out HCAP.out 0 (outsN kind + 5) HK.out.inner (by omega)).mono ?_
 rintro e wt3 ⟨rfl, hb⟩
 have HG5 := Lib.hid (HG4.out.below hb)
 have HU5 := Lib.hid (HU4.out.trans (Buts.of_below hb))
 clear hb c0 c1 c2 lB HG4 HU4
 have hlz := HG5.out.len
 have hft := HFIT.out
 obtain ⟨zx, hzx⟩ : ∃ z, _ = some z := ⟨_, List.getElem?_eq_getElem (show off + (outsN kind + 5 + 0) < _ by rw [hlz]; omega)⟩
 have cz := HG5.out.row.cell _ _ hzx
 have cf := HG5.out.row.free (off + (outsN kind + 5 + 0))
 have lg := HG5.out.lts.1
 clear hzx hlz hft
 go_upto_region 17 with (fail)
 refine wp_name fun wt4 hw => ?_
 have HG6 := Lib.hid (show GS w0 w wt4 g K qi qk ax n V sh m nx _ from by rw [hw.out]; exact HG5.out.put _ 1)
 have HU6 : Hid (Buts (fun b => b = g ∨ b = K ∨ b = qi ∨ b = qk) W wt4) := Lib.hid (by rw [hw.out]; exact HU5.out.trans (Buts.of_but ((But.refl g _).set _ _) (.inl rfl)))
 clear hw cz cf lg HG5 HU5
 obtain ⟨c0, c1, c2, lB⟩ := HC.out wt4 HU6.out
 go_wp2
 refine bodyPost_end (results_none rfl _ _ _) rfl ⟨rfl, _, _, _, HG6.out.more (Nat.le_succ m), stepE HK.out zs (by rw [HLEN.out]; exact HFIT.out)⟩

set_option maxRecDepth 100000 in
set_option maxHeartbeats 4000000 in
theorem asksF_at (i kind : Int) (off cx g K qi qk ax n m k0 : Nat) (V : Nat → Value) (sh : Value) (nx : Int) (zs : List Int) (z0 z1 i0 i1 : Int) (w0 w w1 : World) (h : AsIn w0 w w1 g K qi qk ax n V sh m nx zs kind off cx z0 z1 i0 i1) (hz1 : z1 ≠ 0) (hi0 : i0 ≠ 0) (hk0 : z0 = (k0 : Int) ∧ k0 < ax) :
  Calls Tryd.prog 21 #[.pointer (some ⟨K, 0, none⟩), insV i kind (some ⟨g, off, none⟩) (outsN kind + 7) cx] w1 (AsOut w0 w g K qi qk ax n sh m zs kind off) := by
 show Calls Tryd.prog 21 #[.pointer (some ⟨K, 0, none⟩), .agg #[.int .i64 i, .int .i64 kind, .slice (some ⟨g, off, none⟩) (outsN kind + 7) cx]] w1 _
 obtain ⟨hgs, hcmd, hcap, hfit, htab, hfew, ha0, ha1, hb0, hb1⟩ := h
 have HK := Lib.hid (cmdK hcmd)
 have HCM := Lib.hid hcmd
 have HT := Lib.hid htab
 have HH := Lib.hid hgs
 have HA0 := Lib.hid ha0
 have HA1 := Lib.hid ha1
 have HB0 := Lib.hid hb0
 have HB1 := Lib.hid hb1
 have HCAP := Lib.hid hcap
 have HFIT := Lib.hid hfit
 have HLEN := Lib.hid hgs.len
 have HFEW := Lib.hid hfew
 have HN0 : Hid (axN z0 = (k0 : Int) ∧ axOk z0 ax = true ∧ k0 < ax) := Lib.hid (by
  obtain ⟨rfl, hk⟩ := hk0
  unfold axN axOk
  refine ⟨by omega, ?_, hk⟩
  rw [decide_eq_true (show (0 : Int) ≤ (k0 : Int) by omega), decide_eq_true (show (k0 : Int) < (ax : Int) by omega)]
  rfl)
 have hkI : (0 : Int) ≤ (k0 : Int) ∧ (k0 : Int) < (ax : Int) := by omega
 clear hk0
 have HRI : Hid ((decide (z1 ≠ 0) && decide (i0 = 0)) = false) := Lib.hid (by simp [hi0])
 have u1 : (z1 != 0) = true := by simp [hz1]
 clear hgs hcmd hcap hfit htab hfew ha0 ha1 hb0 hb1 hz1 hi0
 go_enter Tryd.func21, Tryd.ntmps21
 go_upto_region 1 with (fail)
 refine wp_name fun W hW => ?_
 obtain ⟨B, hB⟩ : ∃ B, B = w1.heap.size := ⟨_, rfl⟩
 have hbel : Below w1.heap.size w1 W := by rw [hW.out]; exact belowBy
 have hlB : B < W.heap.size := by rw [hW.out, hB]; simp
 have HAW := Lib.hid (HH.out.below hbel)
 have HNB : Hid (B ≠ g ∧ B ≠ K ∧ B ≠ qi ∧ ¬ (fun b => b = g ∨ b = K ∨ b = qi ∨ b = qk) B) := Lib.hid (by
  obtain ⟨h1, h2, h3, h4⟩ := HH.out.lts
  refine ⟨by omega, by omega, by omega, ?_⟩
  rintro (e | e | e | e) <;> omega)
 have HC : Hid (∀ W', Buts (fun b => b = g ∨ b = K ∨ b = qi ∨ b = qk) W W' → W'.cell? ⟨B, 0, none⟩ = some (.int .i64 i) ∧ W'.cell? ⟨B, 1, none⟩ = some (.int .i64 kind) ∧ W'.cell? ⟨B, 2, none⟩ = some (.slice (some ⟨g, off, none⟩) (outsN kind + 7) cx) ∧ B < W'.heap.size) := Lib.hid (fun W' hW' => by
  refine ⟨(hW'.cell B 0 hlB HNB.out.2.2.2).trans ?_, (hW'.cell B 1 hlB HNB.out.2.2.2).trans ?_, (hW'.cell B 2 hlB HNB.out.2.2.2).trans ?_, Nat.lt_of_lt_of_le hlB hW'.size⟩
  all_goals (rw [hW.out, hB]; go_simp))
 (try rw [← hB])
 clear hW hbel hB hlB HH
 have HU : Hid (Buts (fun b => b = g ∨ b = K ∨ b = qi ∨ b = qk) W W) := Lib.hid (Buts.of_below (Below.refl _ _))
 obtain ⟨c0, c1, c2, lB⟩ := HC.out W HU.out
 have k4 := HAW.out.k4
 have lK := HAW.out.lts.2.1
 have HAX := Lib.hid (fun W' (hW' : Below W.heap.size W W') => (HAW.out.below hW').baxis (i := i) HT.out HCAP.out z0 (k0 : Int) true HK.out.axis (by omega) HA0.out HN0.out.1 HN0.out.2.1)
 refine wp_region_ext (by kernel_rfl) (by kernel_rfl) ?_
 repeat (go_big_quiet_step ((go_at_call 18; exact ext_call (HAX.out _ (ext_below ⟨_, rfl⟩)))))
 refine wpQuiet_nil ?_
 intro wa hba
 replace hba := ext_below hba
 have HA1' := Lib.hid (HAW.out.below hba)
 have HU1' := Lib.hid (HU.out.trans (Buts.of_below hba))
 clear hba c0 c1 c2 lB k4 lK HAX HAW HU
 obtain ⟨c0, c1, c2, lB⟩ := HC.out wa HU1'.out
 go_wp2_with fail
 refine (HA1'.out.bget HT.out HCAP.out nmExecute 1 _ HK.out.exec (by omega) HA1.out).mono ?_
 rintro e wb ⟨rfl, hb⟩
 have HG1 := Lib.hid (HA1'.out.below hb)
 have HU1 := Lib.hid (HU1'.out.trans (Buts.of_below hb))
 clear hb c0 c1 c2 lB HA1' HU1'
 obtain ⟨c0, c1, c2, lB⟩ := HC.out wb HU1.out
 go_wp2_with fail
 refine (HG1.out.brises HT.out HCAP.out 1 (outsN kind + 5) _ _ _ HK.out.exec HK.out.inner (by omega) (by omega) HA1.out HB0.out HRI.out).mono ?_
 rintro e wc' ⟨rfl, hb⟩
 have HG2 := Lib.hid (HG1.out.below hb)
 have HU2 := Lib.hid (HU1.out.trans (Buts.of_below hb))
 clear hb c0 c1 c2 lB HG1 HU1
 obtain ⟨c0, c1, c2, lB⟩ := HC.out wc' HU2.out
 go_wp2_with fail
 refine (HG2.out.binner HT.out HCAP.out 0 (outsN kind + 5) HK.out.inner (by omega)).mono ?_
 rintro e wt1 ⟨rfl, hb⟩
 have HG3 := Lib.hid (HG2.out.below hb)
 have HU3 := Lib.hid (HU2.out.trans (Buts.of_below hb))
 clear hb c0 c1 c2 lB HG2 HU2
 have hlz := HG3.out.len
 have hft := HFIT.out
 obtain ⟨zx, hzx⟩ : ∃ z, _ = some z := ⟨_, List.getElem?_eq_getElem (show off + (outsN kind + 5 + 0) < _ by rw [hlz]; omega)⟩
 have cz := HG3.out.row.cell _ _ hzx
 have cf := HG3.out.row.free (off + (outsN kind + 5 + 0))
 have lg := HG3.out.lts.1
 clear hzx hlz hft
 go_upto_region 15 with (fail)
 refine wp_name fun wt2 hw => ?_
 have HG4 := Lib.hid (show GS w0 w wt2 g K qi qk ax n V sh m nx _ from by rw [hw.out]; exact HG3.out.put _ 0)
 have HU4 : Hid (Buts (fun b => b = g ∨ b = K ∨ b = qi ∨ b = qk) W wt2) := Lib.hid (by rw [hw.out]; exact HU3.out.trans (Buts.of_but ((But.refl g _).set _ _) (.inl rfl)))
 clear hw cz cf lg HG3 HU3
 obtain ⟨c0, c1, c2, lB⟩ := HC.out wt2 HU4.out
 go_wp2_with fail
 refine (HG4.out.binner HT.out HCAP.out 0 (outsN kind + 5) HK.out.inner (by omega)).mono ?_
 rintro e wt3 ⟨rfl, hb⟩
 have HG5 := Lib.hid (HG4.out.below hb)
 have HU5 := Lib.hid (HU4.out.trans (Buts.of_below hb))
 clear hb c0 c1 c2 lB HG4 HU4
 have hlz := HG5.out.len
 have hft := HFIT.out
 obtain ⟨zx, hzx⟩ : ∃ z, _ = some z := ⟨_, List.getElem?_eq_getElem (show off + (outsN kind + 5 + 0) < _ by rw [hlz]; omega)⟩
 have cz := HG5.out.row.cell _ _ hzx
 have cf := HG5.out.row.free (off + (outsN kind + 5 + 0))
 have lg := HG5.out.lts.1
 clear hzx hlz hft
 go_upto_region 17 with (fail)
 refine wp_name fun wt4 hw => ?_
 have HG6 := Lib.hid (show GS w0 w wt4 g K qi qk ax n V sh m nx _ from by rw [hw.out]; exact HG5.out.put _ 1)
 have HU6 : Hid (Buts (fun b => b = g ∨ b = K ∨ b = qi ∨ b = qk) W wt4) := Lib.hid (by rw [hw.out]; exact HU5.out.trans (Buts.of_but ((But.refl g _).set _ _) (.inl rfl)))
 clear hw cz cf lg HG5 HU5
 obtain ⟨c0, c1, c2, lB⟩ := HC.out wt4 HU6.out
 by_cases h22 : kind = 22
 ·have u22 : (kind == 22) = true := by simp [h22]
  clear h22
  have k5 := HG6.out.k5
  obtain ⟨lg, lK, lq, lqk⟩ := HG6.out.lts
  obtain ⟨kv, hkv⟩ := HG6.out.kb k0 HN0.out.2.2
  have kf := HG6.out.bf k0
  clear lg lq
  go_wp2
  refine bodyPost_end (results_none rfl _ _ _) rfl ⟨rfl, _, _, _, (HG6.out.more (Nat.le_succ m)).putB k0 true, stepE HK.out zs (by rw [HLEN.out]; exact HFIT.out)⟩
 ·have u22 : (kind == 22) = false := by simp [h22]
  clear h22
  go_wp2
  refine bodyPost_end (results_none rfl _ _ _) rfl ⟨rfl, _, _, _, HG6.out.more (Nat.le_succ m), stepE HK.out zs (by rw [HLEN.out]; exact HFIT.out)⟩

end Go.Proofs.YtknnhnefbbjcdaaDoor

namespace Go.Proofs.YtknnhnefbbjcdaaDoor
open Go.RowKit
set_option linter.unusedVariables false
set_option linter.unusedSimpArgs false
attribute [local go_sem] ite_max ite_min vite_max vite_min ext_cell ext_frozen

section
variable {w0 w W : World} {g K qi qk ax n m : Nat} {V : Nat → Value} {sh : Value} {nx : Int} {zs : List Int}
theorem GS.shifted (h : GS w0 w W g K qi qk ax n V sh m nx zs) {hh q cap : Nat} {xs : List Value} {W2 : World} (hb : Buts (fun b => sh.ownBlock = some b) W W2) (hown : W2.ownsRow w.heap.size 98 3 (.slice (some ⟨hh, 0, none⟩) q cap) q xs) (hq : q ≤ m + 1) (hat : sh.ownBlock = some hh ∨ W.heap.size ≤ hh) :
  GS w0 w (W2.setCell ⟨K, 3, none⟩ (.slice (some ⟨hh, 0, none⟩) q cap)) g K qi qk ax n V (.slice (some ⟨hh, 0, none⟩) q cap) (m + 1) nx zs := by
 obtain ⟨l1, l2, l3, l4⟩ := h.lts
 obtain ⟨n1, n2, n3, n4, n5, n6⟩ := h.ne
 obtain ⟨b1, b2, b3, b4⟩ := h.lt
 have hs2 := hb.size
 have hsz := h.size
 have hV : ∀ b, sh.ownBlock = some b → w.heap.size ≤ b ∧ b < W.heap.size := fun b hb' => h.ownS hb'
 have hP : ∀ b, b < w.heap.size → ¬ sh.ownBlock = some b := fun b hb' e => by have := (hV b e).1; omega
 have hc : ∀ b o, b < w.heap.size → W2.cell? ⟨b, o, none⟩ = W.cell? ⟨b, o, none⟩ := fun b o hb' => hb.cell b o (by omega) (hP b hb')
 have hf : ∀ b o, b < w.heap.size → W2.frozen? ⟨b, o, none⟩ = W.frozen? ⟨b, o, none⟩ := fun b o hb' => hb.froz b o (by omega) (hP b hb')
 obtain ⟨v, hv⟩ : ∃ v : Value, v = .slice (some ⟨hh, 0, none⟩) q cap := ⟨_, rfl⟩
 have hvo : v.ownBlock = some hh := by rw [hv]; rfl
 rw [← hv] at hown ⊢
 have hb3 : But K W2 (W2.setCell ⟨K, 3, none⟩ v) := (But.refl _ W2).set _ _
 have hB3 : Buts (fun b => b = K) W2 (W2.setCell ⟨K, 3, none⟩ v) := Buts.of_but hb3 rfl
 have hc3 : ∀ b o, b < w.heap.size → b ≠ K → (W2.setCell ⟨K, 3, none⟩ v).cell? ⟨b, o, none⟩ = W.cell? ⟨b, o, none⟩ := fun b o hb' hn => (hb3.cell b o (by omega) hn).trans (hc b o hb')
 have hf3 : ∀ b o, b < w.heap.size → (W2.setCell ⟨K, 3, none⟩ v).frozen? ⟨b, o, none⟩ = W.frozen? ⟨b, o, none⟩ := fun b o hb' => by
  by_cases he : b = K
  ·subst he
   exact froz_put.trans (hf b o hb')
  ·exact (hb3.froz b o (by omega) he).trans (hf b o hb')
 have hk3 : ∀ o u, W.cell? ⟨K, o, none⟩ = some u → (W2.setCell ⟨K, 3, none⟩ v).cell? ⟨K, o, none⟩ = some (if 3 = o then v else u) := fun o u hu => cell_put ((hc K o b2).trans hu) ((hf K _ b2).trans (h.kf _)) (by omega)
 refine ⟨⟨by simp [World.setCell]; omega, fun j z hz => (hc3 g j b1 (Ne.symm n1)).trans (h.row.cell j z hz), fun o => (hf3 g o b1).trans (h.row.free o)⟩, h.len, ((World.cell?_setCell_other _ _ _ _ (fun e => by injection e with e1 e2; omega)).trans (hc K 0 b2)).trans h.k0, hk3 1 _ h.k1, hk3 2 _ h.k2, hk3 3 _ h.k3, hk3 4 _ h.k4, hk3 5 _ h.k5,
  fun o => (hf3 K o b2).trans (h.kf o), fun o => (hf3 qi o b3).trans (h.qf o), fun o => (hf3 qk o b4).trans (h.bf o),
  fun i s hi hs => (h.ib i s hi hs).imp fun b hu => (hc3 qi _ b3 (Ne.symm n4)).trans hu, fun i hi => (h.i9 i hi).imp fun b hu => (hc3 qi _ b3 (Ne.symm n4)).trans hu, fun i hi => (hc3 qi _ b3 (Ne.symm n4)).trans (h.i11 i hi), fun i hi => (h.kb i hi).imp fun b hu => (hc3 qk i b4 (Ne.symm n5)).trans hu,
  fun i hi => ?_, ⟨q, xs, hq, owns_buts hown hB3 fun b hb' e => by have := (hown.lt b hb').1; omega⟩, h.ap1, fun i b hi hbi => ?_, h.lt, h.ne, h.low, ?_, h.old⟩
 ·obtain ⟨q', xs', h1, h2⟩ := h.own i hi
  exact ⟨q', xs', by omega, owns_buts (owns_buts h2 hb fun b hb' e => h.ap2 i b hi hb' e) hB3 fun b hb' e => by have := (h2.lt b hb').1; omega⟩
 ·rw [hvo]
  intro e
  cases e
  have := (h.ownV hi hbi).2
  rcases hat with hat | hat
  ·exact h.ap2 i hh hi hbi hat
  ·omega
 ·refine ⟨?_, fun b hb' hn => ?_, fun B hB hs => ?_⟩
  ·simp [World.setCell]; omega
  ·exact (hb3.blk b (by omega) (fun e => hn (.inr (.inl e)))).trans ((hb.blk b (by omega) (hP b hb')).trans (h.buts.blk b hb' hn))
  ·exact ((h.buts.below B hB hs).trans (hb.below B (fun b hb' => by have := (hV b hb').1; omega) (by omega))).trans (hb3.below B (hB K (.inr (.inl rfl))) (by omega))
end
theorem shift_info : (Tryd.prog.info? 98).map (fun i => (i.zero.map (·.cells.size), i.size, i.bytes)) = some (some 3, 3, 24) := by kernel_rfl
theorem shift_parts : ∃ i z, Tryd.prog.info? 98 = some i ∧ i.zero = some z ∧ z.cells.size = 3 ∧ i.size = 3 ∧ i.bytes = 24 := by
 obtain ⟨i, hi, h⟩ := Option.map_eq_some_iff.1 shift_info
 simp only [Prod.mk.injEq] at h
 obtain ⟨hz, h1, h2⟩ := h
 obtain ⟨z, hz, hs⟩ := Option.map_eq_some_iff.1 hz
 exact ⟨i, z, hi, hz, hs, h1, h2⟩
structure OtIn (w0 w W : World) (g K qi qk ax n : Nat) (V : Nat → Value) (sh : Value) (m : Nat) (nx : Int) (zs : List Int) (off nn cx : Nat) (z0 z1 : Int) : Prop where
 gs : GS w0 w W g K qi qk ax n V sh m nx zs
 cap : nn ≤ cx ∧ cx ≤ 9223372036854775807
 fit : off + nn ≤ n
 tab : Blanks w0
 few : ax ≤ 4 ∧ m ≤ 1000
 a0 : zs[off]? = some z0
 a1 : zs[off + 1]? = some z1
def OtOut (w0 w : World) (g K qi qk ax n : Nat) (m : Nat) (zs : List Int) (kind : Int) (off : Nat) (e : Ending) (w' : World) : Prop :=
 e = .returned (.tuple #[]) ∧ ∃ V' sh' nx' zs', GS w0 w w' g K qi qk ax n V' sh' (m + 1) nx' zs' ∧ StepR kind off zs zs'
theorem px_oth : px 29 nmExecute = some 1 ∧ px 30 nmExecute = some 1 ∧ px 30 ⟨#[]⟩ = some 5 ∧ px 30 ⟨#[80, 111, 115, 105, 116, 105, 111, 110]⟩ = some 2 ∧ px 31 ⟨#[69, 110, 97, 98, 108, 101]⟩ = some 1 ∧ px 31 ⟨#[69, 110, 97, 98, 108, 101, 100]⟩ = some 3 ∧ px 31 ⟨#[80, 101, 114, 99, 101, 110, 116]⟩ = some 2 ∧ px 20 ⟨#[69, 110, 97, 98, 108, 101]⟩ = some 1 := by
 refine ⟨?_, ?_, ?_, ?_, ?_, ?_, ?_, ?_⟩ <;> kernel_rfl

set_option maxRecDepth 100000 in
set_option maxHeartbeats 4000000 in
theorem resets1_at (i : Int) (off cx g K qi qk ax n m : Nat) (V : Nat → Value) (sh : Value) (nx : Int) (zs : List Int) (z0 z1 i0 : Int) (w0 w w1 : World) (h : OtIn w0 w w1 g K qi qk ax n V sh m nx zs off 5 cx z0 z1) (hb0 : zs[off + 4]? = some i0) (hz1 : z1 = 0) :
  Calls Tryd.prog 22 #[.pointer (some ⟨K, 0, none⟩), insV i 29 (some ⟨g, off, none⟩) 5 cx] w1 (OtOut w0 w g K qi qk ax n m zs 29 off) := by
 show Calls Tryd.prog 22 #[.pointer (some ⟨K, 0, none⟩), .agg #[.int .i64 i, .int .i64 29, .slice (some ⟨g, off, none⟩) 5 cx]] w1 _
 obtain ⟨hgs, hcap, hfit, htab, hfew, ha0, ha1⟩ := h
 have HT := Lib.hid htab
 have HH := Lib.hid hgs
 have HA0 := Lib.hid ha0
 have HA1 := Lib.hid ha1
 have HCAP := Lib.hid hcap
 have HFIT := Lib.hid hfit
 have HLEN := Lib.hid hgs.len
 have HFEW := Lib.hid hfew
 have HB0 := Lib.hid hb0
 obtain ⟨na, hna⟩ : ∃ x, axN z0 = x := ⟨_, rfl⟩
 obtain ⟨ok, hok⟩ : ∃ b, axOk z0 ax = b := ⟨_, rfl⟩
 have HN0 : Hid (axN z0 = na ∧ axOk z0 ax = ok) := Lib.hid ⟨hna, hok⟩
 clear hok hna
 subst hz1
 clear hgs hcap hfit htab hfew ha0 ha1 hb0
 go_enter Tryd.func22, Tryd.ntmps22
 go_upto_region 1 with (fail)
 refine wp_name fun W hW => ?_
 obtain ⟨B, hB⟩ : ∃ B, B = w1.heap.size := ⟨_, rfl⟩
 have hbel : Below w1.heap.size w1 W := by rw [hW.out]; exact belowBy
 have hlB : B < W.heap.size := by rw [hW.out, hB]; simp
 have HAW := Lib.hid (HH.out.below hbel)
 have HNB : Hid (B ≠ g ∧ B ≠ K ∧ B ≠ qi ∧ ¬ (fun b => b = g ∨ b = K ∨ b = qi ∨ b = qk) B) := Lib.hid (by
  obtain ⟨h1, h2, h3, h4⟩ := HH.out.lts
  refine ⟨by omega, by omega, by omega, ?_⟩
  rintro (e | e | e | e) <;> omega)
 have HC : Hid (∀ W', Buts (fun b => b = g ∨ b = K ∨ b = qi ∨ b = qk) W W' → W'.cell? ⟨B, 0, none⟩ = some (.int .i64 i) ∧ W'.cell? ⟨B, 1, none⟩ = some (.int .i64 29) ∧ W'.cell? ⟨B, 2, none⟩ = some (.slice (some ⟨g, off, none⟩) 5 cx) ∧ B < W'.heap.size) := Lib.hid (fun W' hW' => by
  refine ⟨(hW'.cell B 0 hlB HNB.out.2.2.2).trans ?_, (hW'.cell B 1 hlB HNB.out.2.2.2).trans ?_, (hW'.cell B 2 hlB HNB.out.2.2.2).trans ?_, Nat.lt_of_lt_of_le hlB hW'.size⟩
  all_goals (rw [hW.out, hB]; go_simp))
 (try rw [← hB])
 clear hW hbel hB hlB HH
 have HU : Hid (Buts (fun b => b = g ∨ b = K ∨ b = qi ∨ b = qk) W W) := Lib.hid (Buts.of_below (Below.refl _ _))
 obtain ⟨c0, c1, c2, lB⟩ := HC.out W HU.out
 have k4 := HAW.out.k4
 have lK := HAW.out.lts.2.1
 have HAX := Lib.hid (fun W' (hW' : Below W.heap.size W W') => (HAW.out.below hW').baxis (i := i) HT.out HCAP.out z0 na ok othK.a29 (by decide) HA0.out HN0.out.1 HN0.out.2)
 refine wp_region_ext (by kernel_rfl) (by kernel_rfl) ?_
 repeat (go_big_quiet_step ((go_at_call 18; exact ext_call (HAX.out _ (ext_below ⟨_, rfl⟩)))))
 refine wpQuiet_nil ?_
 intro wa hba
 replace hba := ext_below hba
 have HA1' := Lib.hid (HAW.out.below hba)
 have HU1' := Lib.hid (HU.out.trans (Buts.of_below hba))
 clear hba c0 c1 c2 lB k4 lK HAX HAW HU
 obtain ⟨c0, c1, c2, lB⟩ := HC.out wa HU1'.out
 go_wp2_with fail
 refine (HA1'.out.bget HT.out HCAP.out nmExecute 1 _ px_oth.1 (by decide) HA1.out).mono ?_
 rintro e wb ⟨rfl, hb⟩
 have HG1 := Lib.hid (HA1'.out.below hb)
 have HU1 := Lib.hid (HU1'.out.trans (Buts.of_below hb))
 clear hb c0 c1 c2 lB HA1' HU1'
 obtain ⟨c0, c1, c2, lB⟩ := HC.out wb HU1.out
 go_wp2_with fail
 refine (HG1.out.bset HT.out HCAP.out HFIT.out nmDone 2 false othK.d29 (by decide)).mono ?_
 rintro e wd ⟨rfl, hbt, hrw⟩
 have HG2 := Lib.hid (HG1.out.next hbt hrw (List.length_set ..))
 have HU2 := Lib.hid (HU1.out.trans (Buts.of_but hbt (.inl rfl)))
 clear hbt hrw c0 c1 c2 lB HG1 HU1
 obtain ⟨c0, c1, c2, lB⟩ := HC.out wd HU2.out
 go_wp2_with fail
 refine (HG2.out.bset HT.out HCAP.out HFIT.out nmError 3 false othK.e29 (by decide)).mono ?_
 rintro e we ⟨rfl, hbt, hrw⟩
 have HG3 := Lib.hid (HG2.out.next hbt hrw (List.length_set ..))
 have HU3 := Lib.hid (HU2.out.trans (Buts.of_but hbt (.inl rfl)))
 clear hbt hrw c0 c1 c2 lB HG2 HU2
 obtain ⟨c0, c1, c2, lB⟩ := HC.out we HU3.out
 go_wp2_with fail
 refine (HG3.out.binner HT.out HCAP.out 0 4 othK.i29 (by decide)).mono ?_
 rintro e wf ⟨rfl, hb⟩
 have HG4 := Lib.hid (HG3.out.below hb)
 have HU4 := Lib.hid (HU3.out.trans (Buts.of_below hb))
 clear hb c0 c1 c2 lB HG3 HU3
 have hlz := HG4.out.len
 have hft := HFIT.out
 obtain ⟨zx, hzx⟩ : ∃ z, _ = some z := ⟨_, List.getElem?_eq_getElem (show off + 4 < _ by rw [hlz]; omega)⟩
 have cz := HG4.out.row.cell _ _ hzx
 have cf := HG4.out.row.free (off + 4)
 have lg := HG4.out.lts.1
 clear hzx hlz hft
 go_wp2
 refine bodyPost_end (results_none rfl _ _ _) rfl ⟨rfl, _, _, _, _, (HG4.out.put (off + (4 + 0)) 0).more (Nat.le_succ m), StepR.other ((((OnlyAt.refl _ _ _).set (by rw [othK.c29]; decide) _).set (by rw [othK.c29]; decide) _).set (by rw [othK.c29]; decide) _) rfl⟩

set_option maxRecDepth 100000 in
set_option maxHeartbeats 4000000 in
theorem resets2_at (i : Int) (off cx g K qi qk ax n m : Nat) (V : Nat → Value) (sh : Value) (nx : Int) (zs : List Int) (z0 z1 i0 : Int) (w0 w w1 : World) (h : OtIn w0 w w1 g K qi qk ax n V sh m nx zs off 5 cx z0 z1) (hb0 : zs[off + 4]? = some i0) (hz1 : z1 ≠ 0) (hi0 : i0 = 0) (hok : axOk z0 ax = false) :
  Calls Tryd.prog 22 #[.pointer (some ⟨K, 0, none⟩), insV i 29 (some ⟨g, off, none⟩) 5 cx] w1 (OtOut w0 w g K qi qk ax n m zs 29 off) := by
 show Calls Tryd.prog 22 #[.pointer (some ⟨K, 0, none⟩), .agg #[.int .i64 i, .int .i64 29, .slice (some ⟨g, off, none⟩) 5 cx]] w1 _
 obtain ⟨hgs, hcap, hfit, htab, hfew, ha0, ha1⟩ := h
 have HT := Lib.hid htab
 have HH := Lib.hid hgs
 have HA0 := Lib.hid ha0
 have HA1 := Lib.hid ha1
 have HCAP := Lib.hid hcap
 have HFIT := Lib.hid hfit
 have HLEN := Lib.hid hgs.len
 have HFEW := Lib.hid hfew
 have HB0 := Lib.hid hb0
 obtain ⟨na, hna⟩ : ∃ x, axN z0 = x := ⟨_, rfl⟩
 have HN0 : Hid (axN z0 = na ∧ axOk z0 ax = false) := Lib.hid ⟨hna, hok⟩
 clear hok hna
 have HRI : Hid ((decide (z1 ≠ 0) && decide (i0 = 0)) = true) := Lib.hid (by simp [hz1, hi0])
 have u1 : (z1 != 0) = true := by simp [hz1]
 have u1' : (z1 == 0) = false := by simp [hz1]
 clear hgs hcap hfit htab hfew ha0 ha1 hb0 hz1 hi0
 go_enter Tryd.func22, Tryd.ntmps22
 go_upto_region 1 with (fail)
 refine wp_name fun W hW => ?_
 obtain ⟨B, hB⟩ : ∃ B, B = w1.heap.size := ⟨_, rfl⟩
 have hbel : Below w1.heap.size w1 W := by rw [hW.out]; exact belowBy
 have hlB : B < W.heap.size := by rw [hW.out, hB]; simp
 have HAW := Lib.hid (HH.out.below hbel)
 have HNB : Hid (B ≠ g ∧ B ≠ K ∧ B ≠ qi ∧ ¬ (fun b => b = g ∨ b = K ∨ b = qi ∨ b = qk) B) := Lib.hid (by
  obtain ⟨h1, h2, h3, h4⟩ := HH.out.lts
  refine ⟨by omega, by omega, by omega, ?_⟩
  rintro (e | e | e | e) <;> omega)
 have HC : Hid (∀ W', Buts (fun b => b = g ∨ b = K ∨ b = qi ∨ b = qk) W W' → W'.cell? ⟨B, 0, none⟩ = some (.int .i64 i) ∧ W'.cell? ⟨B, 1, none⟩ = some (.int .i64 29) ∧ W'.cell? ⟨B, 2, none⟩ = some (.slice (some ⟨g, off, none⟩) 5 cx) ∧ B < W'.heap.size) := Lib.hid (fun W' hW' => by
  refine ⟨(hW'.cell B 0 hlB HNB.out.2.2.2).trans ?_, (hW'.cell B 1 hlB HNB.out.2.2.2).trans ?_, (hW'.cell B 2 hlB HNB.out.2.2.2).trans ?_, Nat.lt_of_lt_of_le hlB hW'.size⟩
  all_goals (rw [hW.out, hB]; go_simp))
 (try rw [← hB])
 clear hW hbel hB hlB HH
 have HU : Hid (Buts (fun b => b = g ∨ b = K ∨ b = qi ∨ b = qk) W W) := Lib.hid (Buts.of_below (Below.refl _ _))
 obtain ⟨c0, c1, c2, lB⟩ := HC.out W HU.out
 have k4 := HAW.out.k4
 have lK := HAW.out.lts.2.1
 have HAX := Lib.hid (fun W' (hW' : Below W.heap.size W W') => (HAW.out.below hW').baxis (i := i) HT.out HCAP.out z0 na false othK.a29 (by decide) HA0.out HN0.out.1 HN0.out.2)
 refine wp_region_ext (by kernel_rfl) (by kernel_rfl) ?_
 repeat (go_big_quiet_step ((go_at_call 18; exact ext_call (HAX.out _ (ext_below ⟨_, rfl⟩)))))
 refine wpQuiet_nil ?_
 intro wa hba
 replace hba := ext_below hba
 have HA1' := Lib.hid (HAW.out.below hba)
 have HU1' := Lib.hid (HU.out.trans (Buts.of_below hba))
 clear hba c0 c1 c2 lB k4 lK HAX HAW HU
 obtain ⟨c0, c1, c2, lB⟩ := HC.out wa HU1'.out
 go_wp2_with fail
 refine (HA1'.out.bget HT.out HCAP.out nmExecute 1 _ px_oth.1 (by decide) HA1.out).mono ?_
 rintro e wb ⟨rfl, hb⟩
 have HG1 := Lib.hid (HA1'.out.below hb)
 have HU1 := Lib.hid (HU1'.out.trans (Buts.of_below hb))
 clear hb c0 c1 c2 lB HA1' HU1'
 obtain ⟨c0, c1, c2, lB⟩ := HC.out wb HU1.out
 go_wp2_with fail
 refine (HG1.out.brises HT.out HCAP.out 1 4 _ _ _ px_oth.1 othK.i29 (by decide) (by decide) HA1.out HB0.out HRI.out).mono ?_
 rintro e wc' ⟨rfl, hb⟩
 have HG2 := Lib.hid (HG1.out.below hb)
 have HU2 := Lib.hid (HU1.out.trans (Buts.of_below hb))
 clear hb c0 c1 c2 lB HG1 HU1
 obtain ⟨c0, c1, c2, lB⟩ := HC.out wc' HU2.out
 go_wp2_with fail
 refine (HG2.out.bset HT.out HCAP.out HFIT.out nmDone 2 false othK.d29 (by decide)).mono ?_
 rintro e wd ⟨rfl, hbt, hrw⟩
 have HG3 := Lib.hid (HG2.out.next hbt hrw (List.length_set ..))
 have HU3 := Lib.hid (HU2.out.trans (Buts.of_but hbt (.inl rfl)))
 clear hbt hrw c0 c1 c2 lB HG2 HU2
 obtain ⟨c0, c1, c2, lB⟩ := HC.out wd HU3.out
 go_wp2_with fail
 refine (HG3.out.bset HT.out HCAP.out HFIT.out nmError 3 true othK.e29 (by decide)).mono ?_
 rintro e we ⟨rfl, hbt, hrw⟩
 have HG4 := Lib.hid (HG3.out.next hbt hrw (List.length_set ..))
 have HU4 := Lib.hid (HU3.out.trans (Buts.of_but hbt (.inl rfl)))
 clear hbt hrw c0 c1 c2 lB HG3 HU3
 obtain ⟨c0, c1, c2, lB⟩ := HC.out we HU4.out
 go_wp2_with fail
 refine (HG4.out.binner HT.out HCAP.out 0 4 othK.i29 (by decide)).mono ?_
 rintro e wf ⟨rfl, hb⟩
 have HG5 := Lib.hid (HG4.out.below hb)
 have HU5 := Lib.hid (HU4.out.trans (Buts.of_below hb))
 clear hb c0 c1 c2 lB HG4 HU4
 have hlz := HG5.out.len
 have hft := HFIT.out
 obtain ⟨zx, hzx⟩ : ∃ z, _ = some z := ⟨_, List.getElem?_eq_getElem (show off + 4 < _ by rw [hlz]; omega)⟩
 have cz := HG5.out.row.cell _ _ hzx
 have cf := HG5.out.row.free (off + 4)
 have lg := HG5.out.lts.1
 clear hzx hlz hft
 go_upto_region 10 with (fail)
 refine wp_name fun wg hw => ?_
 have HG6 := Lib.hid (show GS w0 w wg g K qi qk ax n V sh m nx _ from by rw [hw.out]; exact HG5.out.put _ 1)
 have HU6 : Hid (Buts (fun b => b = g ∨ b = K ∨ b = qi ∨ b = qk) W wg) := Lib.hid (by rw [hw.out]; exact HU5.out.trans (Buts.of_but ((But.refl g _).set _ _) (.inl rfl)))
 clear hw cz cf lg HG5 HU5
 go_wp2
 refine bodyPost_end (results_none rfl _ _ _) rfl ⟨rfl, _, _, _, _, HG6.out.more (Nat.le_succ m), StepR.other ((((OnlyAt.refl _ _ _).set (by rw [othK.c29]; decide) _).set (by rw [othK.c29]; decide) _).set (by rw [othK.c29]; decide) _) rfl⟩

set_option maxRecDepth 100000 in
set_option maxHeartbeats 4000000 in
theorem resets3_at (i : Int) (off cx g K qi qk ax n m k0 : Nat) (V : Nat → Value) (sh : Value) (nx : Int) (zs : List Int) (z0 z1 i0 : Int) (w0 w w1 : World) (h : OtIn w0 w w1 g K qi qk ax n V sh m nx zs off 5 cx z0 z1) (hb0 : zs[off + 4]? = some i0) (hz1 : z1 ≠ 0) (hi0 : i0 = 0) (hk0 : z0 = (k0 : Int) ∧ k0 < ax) :
  Calls Tryd.prog 22 #[.pointer (some ⟨K, 0, none⟩), insV i 29 (some ⟨g, off, none⟩) 5 cx] w1 (OtOut w0 w g K qi qk ax n m zs 29 off) := by
 show Calls Tryd.prog 22 #[.pointer (some ⟨K, 0, none⟩), .agg #[.int .i64 i, .int .i64 29, .slice (some ⟨g, off, none⟩) 5 cx]] w1 _
 obtain ⟨hgs, hcap, hfit, htab, hfew, ha0, ha1⟩ := h
 have HT := Lib.hid htab
 have HH := Lib.hid hgs
 have HA0 := Lib.hid ha0
 have HA1 := Lib.hid ha1
 have HCAP := Lib.hid hcap
 have HFIT := Lib.hid hfit
 have HLEN := Lib.hid hgs.len
 have HFEW := Lib.hid hfew
 have HB0 := Lib.hid hb0
 have HN0 : Hid (axN z0 = (k0 : Int) ∧ axOk z0 ax = true ∧ k0 < ax) := Lib.hid (by
  obtain ⟨rfl, hk⟩ := hk0
  unfold axN axOk
  refine ⟨by omega, ?_, hk⟩
  rw [decide_eq_true (show (0 : Int) ≤ (k0 : Int) by omega), decide_eq_true (show (k0 : Int) < (ax : Int) by omega)]
  rfl)
 have hkI : (0 : Int) ≤ (k0 : Int) ∧ (k0 : Int) < (ax : Int) := by omega
 clear hk0
 have HRI : Hid ((decide (z1 ≠ 0) && decide (i0 = 0)) = true) := Lib.hid (by simp [hz1, hi0])
 have u1 : (z1 != 0) = true := by simp [hz1]
 have u1' : (z1 == 0) = false := by simp [hz1]
 clear hgs hcap hfit htab hfew ha0 ha1 hb0 hz1 hi0
 go_enter Tryd.func22, Tryd.ntmps22
 go_upto_region 1 with (fail)
 refine wp_name fun W hW => ?_
 obtain ⟨B, hB⟩ : ∃ B, B = w1.heap.size := ⟨_, rfl⟩
 have hbel : Below w1.heap.size w1 W := by rw [hW.out]; exact belowBy
 have hlB : B < W.heap.size := by rw [hW.out, hB]; simp
 have HAW := Lib.hid (HH.out.below hbel)
 have HNB : Hid (B ≠ g ∧ B ≠ K ∧ B ≠ qi ∧ ¬ (fun b => b = g ∨ b = K ∨ b = qi ∨ b = qk) B) := Lib.hid (by
  obtain ⟨h1, h2, h3, h4⟩ := HH.out.lts
  refine ⟨by omega, by omega, by omega, ?_⟩
  rintro (e | e | e | e) <;> omega)
 have HC : Hid (∀ W', Buts (fun b => b = g ∨ b = K ∨ b = qi ∨ b = qk) W W' → W'.cell? ⟨B, 0, none⟩ = some (.int .i64 i) ∧ W'.cell? ⟨B, 1, none⟩ = some (.int .i64 29) ∧ W'.cell? ⟨B, 2, none⟩ = some (.slice (some ⟨g, off, none⟩) 5 cx) ∧ B < W'.heap.size) := Lib.hid (fun W' hW' => by
  refine ⟨(hW'.cell B 0 hlB HNB.out.2.2.2).trans ?_, (hW'.cell B 1 hlB HNB.out.2.2.2).trans ?_, (hW'.cell B 2 hlB HNB.out.2.2.2).trans ?_, Nat.lt_of_lt_of_le hlB hW'.size⟩
  all_goals (rw [hW.out, hB]; go_simp))
 (try rw [← hB])
 clear hW hbel hB hlB HH
 have HU : Hid (Buts (fun b => b = g ∨ b = K ∨ b = qi ∨ b = qk) W W) := Lib.hid (Buts.of_below (Below.refl _ _))
 obtain ⟨c0, c1, c2, lB⟩ := HC.out W HU.out
 have k4 := HAW.out.k4
 have lK := HAW.out.lts.2.1
 have HAX := Lib.hid (fun W' (hW' : Below W.heap.size W W') => (HAW.out.below hW').baxis (i := i) HT.out HCAP.out z0 (k0 : Int) true othK.a29 (by decide) HA0.out HN0.out.1 HN0.out.2.1)
 refine wp_region_ext (by kernel_rfl) (by kernel_rfl) ?_
 repeat (go_big_quiet_step ((go_at_call 18; exact ext_call (HAX.out _ (ext_below ⟨_, rfl⟩)))))
 refine wpQuiet_nil ?_
 intro wa hba
 replace hba := ext_below hba
 have HA1' := Lib.hid (HAW.out.below hba)
 have HU1' := Lib.hid (HU.out.trans (Buts.of_below hba))
 clear hba c0 c1 c2 lB k4 lK HAX HAW HU
 obtain ⟨c0, c1, c2, lB⟩ := HC.out wa HU1'.out
 go_wp2_with fail
 refine (HA1'.out.bget HT.out HCAP.out nmExecute 1 _ px_oth.1 (by decide) HA1.out).mono ?_
 rintro e wb ⟨rfl, hb⟩
 have HG1 := Lib.hid (HA1'.out.below hb)
 have HU1 := Lib.hid (HU1'.out.trans (Buts.of_below hb))
 clear hb c0 c1 c2 lB HA1' HU1'
 obtain ⟨c0, c1, c2, lB⟩ := HC.out wb HU1.out
 go_wp2_with fail
 refine (HG1.out.brises HT.out HCAP.out 1 4 _ _ _ px_oth.1 othK.i29 (by decide) (by decide) HA1.out HB0.out HRI.out).mono ?_
 rintro e wc' ⟨rfl, hb⟩
 have HG2 := Lib.hid (HG1.out.below hb)
 have HU2 := Lib.hid (HU1.out.trans (Buts.of_below hb))
 clear hb c0 c1 c2 lB HG1 HU1
 obtain ⟨c0, c1, c2, lB⟩ := HC.out wc' HU2.out
 go_wp2_with fail
 refine (HG2.out.bset HT.out HCAP.out HFIT.out nmDone 2 false othK.d29 (by decide)).mono ?_
 rintro e wd ⟨rfl, hbt, hrw⟩
 have HG3 := Lib.hid (HG2.out.next hbt hrw (List.length_set ..))
 have HU3 := Lib.hid (HU2.out.trans (Buts.of_but hbt (.inl rfl)))
 clear hbt hrw c0 c1 c2 lB HG2 HU2
 obtain ⟨c0, c1, c2, lB⟩ := HC.out wd HU3.out
 go_wp2_with fail
 refine (HG3.out.bset HT.out HCAP.out HFIT.out nmError 3 false othK.e29 (by decide)).mono ?_
 rintro e we ⟨rfl, hbt, hrw⟩
 have HG4 := Lib.hid (HG3.out.next hbt hrw (List.length_set ..))
 have HU4 := Lib.hid (HU3.out.trans (Buts.of_but hbt (.inl rfl)))
 clear hbt hrw c0 c1 c2 lB HG3 HU3
 obtain ⟨c0, c1, c2, lB⟩ := HC.out we HU4.out
 go_wp2_with fail
 refine (HG4.out.binner HT.out HCAP.out 0 4 othK.i29 (by decide)).mono ?_
 rintro e wf ⟨rfl, hb⟩
 have HG5 := Lib.hid (HG4.out.below hb)
 have HU5 := Lib.hid (HU4.out.trans (Buts.of_below hb))
 clear hb c0 c1 c2 lB HG4 HU4
 have hlz := HG5.out.len
 have hft := HFIT.out
 obtain ⟨zx, hzx⟩ : ∃ z, _ = some z := ⟨_, List.getElem?_eq_getElem (show off + 4 < _ by rw [hlz]; omega)⟩
 have cz := HG5.out.row.cell _ _ hzx
 have cf := HG5.out.row.free (off + 4)
 have lg := HG5.out.lts.1
 clear hzx hlz hft
 go_upto_region 10 with (fail)
 refine wp_name fun wg hw => ?_
 have HG6 := Lib.hid (show GS w0 w wg g K qi qk ax n V sh m nx _ from by rw [hw.out]; exact HG5.out.put _ 1)
 have HU6 : Hid (Buts (fun b => b = g ∨ b = K ∨ b = qi ∨ b = qk) W wg) := Lib.hid (by rw [hw.out]; exact HU5.out.trans (Buts.of_but ((But.refl g _).set _ _) (.inl rfl)))
 clear hw cz cf lg HG5 HU5
 have k2 := HG6.out.k2
 obtain ⟨lg, lK, lq, lqk⟩ := HG6.out.lts
 obtain ⟨rv, hrv⟩ := HG6.out.ib k0 7 HN0.out.2.2 (.inr (.inl rfl))
 have qf := HG6.out.qf (k0 * 12 + 7)
 clear lg lqk
 go_upto_region 12 with (fail)
 refine wp_name fun wh hw => ?_
 have HGR := Lib.hid (show GS w0 w wh g K qi qk ax n V sh m nx _ from by rw [hw.out]; exact HG6.out.putQ k0 7 (.bool true) (.inl ⟨.inr (.inl rfl), true, rfl⟩))
 have HUR : Hid (Buts (fun b => b = g ∨ b = K ∨ b = qi ∨ b = qk) W wh) := Lib.hid (by rw [hw.out]; exact HU6.out.trans (Buts.of_but ((But.refl qi _).set _ _) (.inr (.inr (.inl rfl)))))
 clear hw k2 lK lq hrv qf HG6 HU6
 obtain ⟨c0, c1, c2, lB⟩ := HC.out wh HUR.out
 go_wp2_with fail
 refine (HGR.out.binner HT.out HCAP.out 0 4 othK.i29 (by decide)).mono ?_
 rintro e wi ⟨rfl, hb⟩
 have HG7 := Lib.hid (HGR.out.below hb)
 have HU7 := Lib.hid (HUR.out.trans (Buts.of_below hb))
 clear hb c0 c1 c2 lB HGR HUR
 have hlz := HG7.out.len
 have hft := HFIT.out
 obtain ⟨zx, hzx⟩ : ∃ z, _ = some z := ⟨_, List.getElem?_eq_getElem (show off + 4 < _ by rw [hlz]; omega)⟩
 have cz := HG7.out.row.cell _ _ hzx
 have cf := HG7.out.row.free (off + 4)
 have lg := HG7.out.lts.1
 clear hzx hlz hft
 go_wp2
 refine bodyPost_end (results_none rfl _ _ _) rfl ⟨rfl, _, _, _, _, (HG7.out.put (off + (4 + 0)) 2).more (Nat.le_succ m), StepR.other (((((OnlyAt.refl _ _ _).set (by rw [othK.c29]; decide) _).set (by rw [othK.c29]; decide) _).set (by rw [othK.c29]; decide) _).set (by rw [othK.c29]; decide) _) rfl⟩

set_option maxRecDepth 100000 in
set_option maxHeartbeats 4000000 in
theorem resets4_at (i : Int) (off cx g K qi qk ax n m : Nat) (V : Nat → Value) (sh : Value) (nx : Int) (zs : List Int) (z0 z1 i0 : Int) (w0 w w1 : World) (h : OtIn w0 w w1 g K qi qk ax n V sh m nx zs off 5 cx z0 z1) (hb0 : zs[off + 4]? = some i0) (hz1 : z1 ≠ 0) (hi0 : i0 ≠ 0) :
  Calls Tryd.prog 22 #[.pointer (some ⟨K, 0, none⟩), insV i 29 (some ⟨g, off, none⟩) 5 cx] w1 (OtOut w0 w g K qi qk ax n m zs 29 off) := by
 show Calls Tryd.prog 22 #[.pointer (some ⟨K, 0, none⟩), .agg #[.int .i64 i, .int .i64 29, .slice (some ⟨g, off, none⟩) 5 cx]] w1 _
 obtain ⟨hgs, hcap, hfit, htab, hfew, ha0, ha1⟩ := h
 have HT := Lib.hid htab
 have HH := Lib.hid hgs
 have HA0 := Lib.hid ha0
 have HA1 := Lib.hid ha1
 have HCAP := Lib.hid hcap
 have HFIT := Lib.hid hfit
 have HLEN := Lib.hid hgs.len
 have HFEW := Lib.hid hfew
 have HB0 := Lib.hid hb0
 obtain ⟨na, hna⟩ : ∃ x, axN z0 = x := ⟨_, rfl⟩
 obtain ⟨ok, hok⟩ : ∃ b, axOk z0 ax = b := ⟨_, rfl⟩
 have HN0 : Hid (axN z0 = na ∧ axOk z0 ax = ok) := Lib.hid ⟨hna, hok⟩
 clear hok hna
 have HRI : Hid ((decide (z1 ≠ 0) && decide (i0 = 0)) = false) := Lib.hid (by simp [hi0])
 have u1 : (z1 != 0) = true := by simp [hz1]
 have u1' : (z1 == 0) = false := by simp [hz1]
 clear hgs hcap hfit htab hfew ha0 ha1 hb0 hz1 hi0
 go_enter Tryd.func22, Tryd.ntmps22
 go_upto_region 1 with (fail)
 refine wp_name fun W hW => ?_
 obtain ⟨B, hB⟩ : ∃ B, B = w1.heap.size := ⟨_, rfl⟩
 have hbel : Below w1.heap.size w1 W := by rw [hW.out]; exact belowBy
 have hlB : B < W.heap.size := by rw [hW.out, hB]; simp
 have HAW := Lib.hid (HH.out.below hbel)
 have HNB : Hid (B ≠ g ∧ B ≠ K ∧ B ≠ qi ∧ ¬ (fun b => b = g ∨ b = K ∨ b = qi ∨ b = qk) B) := Lib.hid (by
  obtain ⟨h1, h2, h3, h4⟩ := HH.out.lts
  refine ⟨by omega, by omega, by omega, ?_⟩
  rintro (e | e | e | e) <;> omega)
 have HC : Hid (∀ W', Buts (fun b => b = g ∨ b = K ∨ b = qi ∨ b = qk) W W' → W'.cell? ⟨B, 0, none⟩ = some (.int .i64 i) ∧ W'.cell? ⟨B, 1, none⟩ = some (.int .i64 29) ∧ W'.cell? ⟨B, 2, none⟩ = some (.slice (some ⟨g, off, none⟩) 5 cx) ∧ B < W'.heap.size) := Lib.hid (fun W' hW' => by
  refine ⟨(hW'.cell B 0 hlB HNB.out.2.2.2).trans ?_, (hW'.cell B 1 hlB HNB.out.2.2.2).trans ?_, (hW'.cell B 2 hlB HNB.out.2.2.2).trans ?_, Nat.lt_of_lt_of_le hlB hW'.size⟩
  all_goals (rw [hW.out, hB]; go_simp))
 (try rw [← hB])
 clear hW hbel hB hlB HH
 have HU : Hid (Buts (fun b => b = g ∨ b = K ∨ b = qi ∨ b = qk) W W) := Lib.hid (Buts.of_below (Below.refl _ _))
 obtain ⟨c0, c1, c2, lB⟩ := HC.out W HU.out
 have k4 := HAW.out.k4
 have lK := HAW.out.lts.2.1
 have HAX := Lib.hid (fun W' (hW' : Below W.heap.size W W') => (HAW.out.below hW').baxis (i := i) HT.out HCAP.out z0 na ok othK.a29 (by decide) HA0.out HN0.out.1 HN0.out.2)
 refine wp_region_ext (by kernel_rfl) (by kernel_rfl) ?_
 repeat (go_big_quiet_step ((go_at_call 18; exact ext_call (HAX.out _ (ext_below ⟨_, rfl⟩)))))
 refine wpQuiet_nil ?_
 intro wa hba
 replace hba := ext_below hba
 have HA1' := Lib.hid (HAW.out.below hba)
 have HU1' := Lib.hid (HU.out.trans (Buts.of_below hba))
 clear hba c0 c1 c2 lB k4 lK HAX HAW HU
 obtain ⟨c0, c1, c2, lB⟩ := HC.out wa HU1'.out
 go_wp2_with fail
 refine (HA1'.out.bget HT.out HCAP.out nmExecute 1 _ px_oth.1 (by decide) HA1.out).mono ?_
 rintro e wb ⟨rfl, hb⟩
 have HG1 := Lib.hid (HA1'.out.below hb)
 have HU1 := Lib.hid (HU1'.out.trans (Buts.of_below hb))
 clear hb c0 c1 c2 lB HA1' HU1'
 obtain ⟨c0, c1, c2, lB⟩ := HC.out wb HU1.out
 go_wp2_with fail
 refine (HG1.out.brises HT.out HCAP.out 1 4 _ _ _ px_oth.1 othK.i29 (by decide) (by decide) HA1.out HB0.out HRI.out).mono ?_
 rintro e wc' ⟨rfl, hb⟩
 have HG2 := Lib.hid (HG1.out.below hb)
 have HU2 := Lib.hid (HU1.out.trans (Buts.of_below hb))
 clear hb c0 c1 c2 lB HG1 HU1
 obtain ⟨c0, c1, c2, lB⟩ := HC.out wc' HU2.out
 go_wp2
 refine bodyPost_end (results_none rfl _ _ _) rfl ⟨rfl, _, _, _, _, HG2.out.more (Nat.le_succ m), StepR.other (OnlyAt.refl _ _ _) rfl⟩

set_option maxRecDepth 100000 in
set_option maxHeartbeats 4000000 in
theorem places1_at (i : Int) (off cx g K qi qk ax n m : Nat) (V : Nat → Value) (sh : Value) (nx : Int) (zs : List Int) (z0 z1 i0 : Int) (w0 w w1 : World) (h : OtIn w0 w w1 g K qi qk ax n V sh m nx zs off 6 cx z0 z1) (hb0 : zs[off + 5]? = some i0) (hz1 : z1 ≠ 0) (hi0 : i0 = 0) (hok : axOk z0 ax = false) :
  Calls Tryd.prog 23 #[.pointer (some ⟨K, 0, none⟩), insV i 30 (some ⟨g, off, none⟩) 6 cx] w1 (OtOut w0 w g K qi qk ax n m zs 30 off) := by
 show Calls Tryd.prog 23 #[.pointer (some ⟨K, 0, none⟩), .agg #[.int .i64 i, .int .i64 30, .slice (some ⟨g, off, none⟩) 6 cx]] w1 _
 obtain ⟨hgs, hcap, hfit, htab, hfew, ha0, ha1⟩ := h
 have HT := Lib.hid htab
 have HH := Lib.hid hgs
 have HA0 := Lib.hid ha0
 have HA1 := Lib.hid ha1
 have HCAP := Lib.hid hcap
 have HFIT := Lib.hid hfit
 have HLEN := Lib.hid hgs.len
 have HFEW := Lib.hid hfew
 have HB0 := Lib.hid hb0
 obtain ⟨na, hna⟩ : ∃ x, axN z0 = x := ⟨_, rfl⟩
 have HN0 : Hid (axN z0 = na ∧ axOk z0 ax = false) := Lib.hid ⟨hna, hok⟩
 clear hok hna
 have HRI : Hid ((decide (z1 ≠ 0) && decide (i0 = 0)) = true) := Lib.hid (by simp [hz1, hi0])
 have u1 : (z1 != 0) = true := by simp [hz1]
 have u1' : (z1 == 0) = false := by simp [hz1]
 clear hgs hcap hfit htab hfew ha0 ha1 hb0 hz1 hi0
 go_enter Tryd.func23, Tryd.ntmps23
 go_upto_region 1 with (fail)
 refine wp_name fun W hW => ?_
 obtain ⟨B, hB⟩ : ∃ B, B = w1.heap.size := ⟨_, rfl⟩
 have hbel : Below w1.heap.size w1 W := by rw [hW.out]; exact belowBy
 have hlB : B < W.heap.size := by rw [hW.out, hB]; simp
 have HAW := Lib.hid (HH.out.below hbel)
 have HNB : Hid (B ≠ g ∧ B ≠ K ∧ B ≠ qi ∧ ¬ (fun b => b = g ∨ b = K ∨ b = qi ∨ b = qk) B) := Lib.hid (by
  obtain ⟨h1, h2, h3, h4⟩ := HH.out.lts
  refine ⟨by omega, by omega, by omega, ?_⟩
  rintro (e | e | e | e) <;> omega)
 have HC : Hid (∀ W', Buts (fun b => b = g ∨ b = K ∨ b = qi ∨ b = qk) W W' → W'.cell? ⟨B, 0, none⟩ = some (.int .i64 i) ∧ W'.cell? ⟨B, 1, none⟩ = some (.int .i64 30) ∧ W'.cell? ⟨B, 2, none⟩ = some (.slice (some ⟨g, off, none⟩) 6 cx) ∧ B < W'.heap.size) := Lib.hid (fun W' hW' => by
  refine ⟨(hW'.cell B 0 hlB HNB.out.2.2.2).trans ?_, (hW'.cell B 1 hlB HNB.out.2.2.2).trans ?_, (hW'.cell B 2 hlB HNB.out.2.2.2).trans ?_, Nat.lt_of_lt_of_le hlB hW'.size⟩
  all_goals (rw [hW.out, hB]; go_simp))
 (try rw [← hB])
 clear hW hbel hB hlB HH
 have HU : Hid (Buts (fun b => b = g ∨ b = K ∨ b = qi ∨ b = qk) W W) := Lib.hid (Buts.of_below (Below.refl _ _))
 obtain ⟨c0, c1, c2, lB⟩ := HC.out W HU.out
 have k4 := HAW.out.k4
 have lK := HAW.out.lts.2.1
 have HAX := Lib.hid (fun W' (hW' : Below W.heap.size W W') => (HAW.out.below hW').baxis (i := i) HT.out HCAP.out z0 na false othK.a30 (by decide) HA0.out HN0.out.1 HN0.out.2)
 refine wp_region_ext (by kernel_rfl) (by kernel_rfl) ?_
 repeat (go_big_quiet_step ((go_at_call 18; exact ext_call (HAX.out _ (ext_below ⟨_, rfl⟩)))))
 refine wpQuiet_nil ?_
 intro wa hba
 replace hba := ext_below hba
 have HA1' := Lib.hid (HAW.out.below hba)
 have HU1' := Lib.hid (HU.out.trans (Buts.of_below hba))
 clear hba c0 c1 c2 lB k4 lK HAX HAW HU
 obtain ⟨c0, c1, c2, lB⟩ := HC.out wa HU1'.out
 go_wp2_with fail
 refine (HA1'.out.bget HT.out HCAP.out nmExecute 1 _ px_oth.2.1 (by decide) HA1.out).mono ?_
 rintro e wb ⟨rfl, hb⟩
 have HG1 := Lib.hid (HA1'.out.below hb)
 have HU1 := Lib.hid (HU1'.out.trans (Buts.of_below hb))
 clear hb c0 c1 c2 lB HA1' HU1'
 obtain ⟨c0, c1, c2, lB⟩ := HC.out wb HU1.out
 go_wp2_with fail
 refine (HG1.out.brises HT.out HCAP.out 1 5 _ _ _ px_oth.2.1 px_oth.2.2.1 (by decide) (by decide) HA1.out HB0.out HRI.out).mono ?_
 rintro e wc' ⟨rfl, hb⟩
 have HG2 := Lib.hid (HG1.out.below hb)
 have HU2 := Lib.hid (HU1.out.trans (Buts.of_below hb))
 clear hb c0 c1 c2 lB HG1 HU1
 obtain ⟨c0, c1, c2, lB⟩ := HC.out wc' HU2.out
 go_wp2_with fail
 refine (HG2.out.bset HT.out HCAP.out HFIT.out nmDone 3 false othK.d30 (by decide)).mono ?_
 rintro e wd ⟨rfl, hbt, hrw⟩
 have HG3 := Lib.hid (HG2.out.next hbt hrw (List.length_set ..))
 have HU3 := Lib.hid (HU2.out.trans (Buts.of_but hbt (.inl rfl)))
 clear hbt hrw c0 c1 c2 lB HG2 HU2
 obtain ⟨c0, c1, c2, lB⟩ := HC.out wd HU3.out
 go_wp2_with fail
 refine (HG3.out.bset HT.out HCAP.out HFIT.out nmError 4 true othK.e30 (by decide)).mono ?_
 rintro e we ⟨rfl, hbt, hrw⟩
 have HG4 := Lib.hid (HG3.out.next hbt hrw (List.length_set ..))
 have HU4 := Lib.hid (HU3.out.trans (Buts.of_but hbt (.inl rfl)))
 clear hbt hrw c0 c1 c2 lB HG3 HU3
 obtain ⟨c0, c1, c2, lB⟩ := HC.out we HU4.out
 go_wp2_with fail
 refine (HG4.out.binner HT.out HCAP.out 0 5 px_oth.2.2.1 (by decide)).mono ?_
 rintro e wt1 ⟨rfl, hb⟩
 have HG5 := Lib.hid (HG4.out.below hb)
 have HU5 := Lib.hid (HU4.out.trans (Buts.of_below hb))
 clear hb c0 c1 c2 lB HG4 HU4
 have hlz := HG5.out.len
 have hft := HFIT.out
 obtain ⟨zx, hzx⟩ : ∃ z, _ = some z := ⟨_, List.getElem?_eq_getElem (show off + 5 < _ by rw [hlz]; omega)⟩
 have cz := HG5.out.row.cell _ _ hzx
 have cf := HG5.out.row.free (off + 5)
 have lg := HG5.out.lts.1
 clear hzx hlz hft
 go_upto_region 12 with (fail)
 refine wp_name fun wt2 hw => ?_
 have HG6 := Lib.hid (show GS w0 w wt2 g K qi qk ax n V sh m nx _ from by rw [hw.out]; exact HG5.out.put _ 0)
 have HU6 : Hid (Buts (fun b => b = g ∨ b = K ∨ b = qi ∨ b = qk) W wt2) := Lib.hid (by rw [hw.out]; exact HU5.out.trans (Buts.of_but ((But.refl g _).set _ _) (.inl rfl)))
 clear hw cz cf lg HG5 HU5
 obtain ⟨c0, c1, c2, lB⟩ := HC.out wt2 HU6.out
 go_wp2_with fail
 refine (HG6.out.binner HT.out HCAP.out 0 5 px_oth.2.2.1 (by decide)).mono ?_
 rintro e wt3 ⟨rfl, hb⟩
 have HG7 := Lib.hid (HG6.out.below hb)
 have HU7 := Lib.hid (HU6.out.trans (Buts.of_below hb))
 clear hb c0 c1 c2 lB HG6 HU6
 have hlz := HG7.out.len
 have hft := HFIT.out
 obtain ⟨zx, hzx⟩ : ∃ z, _ = some z := ⟨_, List.getElem?_eq_getElem (show off + 5 < _ by rw [hlz]; omega)⟩
 have cz := HG7.out.row.cell _ _ hzx
 have cf := HG7.out.row.free (off + 5)
 have lg := HG7.out.lts.1
 clear hzx hlz hft
 go_wp2
 refine bodyPost_end (results_none rfl _ _ _) rfl ⟨rfl, _, _, _, _, (HG7.out.put (off + (5 + 0)) 1).more (Nat.le_succ m), StepR.other (((((OnlyAt.refl _ _ _).set (by rw [othK.c30]; decide) _).set (by rw [othK.c30]; decide) _).set (by rw [othK.c30]; decide) _).set (by rw [othK.c30]; decide) _) rfl⟩

set_option maxRecDepth 100000 in
set_option maxHeartbeats 4000000 in
theorem places2_at (i : Int) (off cx g K qi qk ax n m k0 : Nat) (V : Nat → Value) (sh : Value) (nx : Int) (zs : List Int) (z0 z1 i0 : Int) (w0 w w1 : World) (h : OtIn w0 w w1 g K qi qk ax n V sh m nx zs off 6 cx z0 z1) (hb0 : zs[off + 5]? = some i0) (hz1 : z1 ≠ 0) (hi0 : i0 = 0) (hk0 : z0 = (k0 : Int) ∧ k0 < ax) :
  Calls Tryd.prog 23 #[.pointer (some ⟨K, 0, none⟩), insV i 30 (some ⟨g, off, none⟩) 6 cx] w1 (OtOut w0 w g K qi qk ax n m zs 30 off) := by
 show Calls Tryd.prog 23 #[.pointer (some ⟨K, 0, none⟩), .agg #[.int .i64 i, .int .i64 30, .slice (some ⟨g, off, none⟩) 6 cx]] w1 _
 obtain ⟨hgs, hcap, hfit, htab, hfew, ha0, ha1⟩ := h
 have HT := Lib.hid htab
 have HH := Lib.hid hgs
 have HA0 := Lib.hid ha0
 have HA1 := Lib.hid ha1
 have HCAP := Lib.hid hcap
 have HFIT := Lib.hid hfit
 have HLEN := Lib.hid hgs.len
 have HFEW := Lib.hid hfew
 have HB0 := Lib.hid hb0
 have HOWN0 := Lib.hid (fun b (hb : sh.ownBlock = some b) => hgs.ownS hb)
 have HN0 : Hid (axN z0 = (k0 : Int) ∧ axOk z0 ax = true ∧ k0 < ax) := Lib.hid (by
  obtain ⟨rfl, hk⟩ := hk0
  unfold axN axOk
  refine ⟨by omega, ?_, hk⟩
  rw [decide_eq_true (show (0 : Int) ≤ (k0 : Int) by omega), decide_eq_true (show (k0 : Int) < (ax : Int) by omega)]
  rfl)
 have hkI : (0 : Int) ≤ (k0 : Int) ∧ (k0 : Int) < (ax : Int) := by omega
 clear hk0
 have HRI : Hid ((decide (z1 ≠ 0) && decide (i0 = 0)) = true) := Lib.hid (by simp [hz1, hi0])
 have u1 : (z1 != 0) = true := by simp [hz1]
 have u1' : (z1 == 0) = false := by simp [hz1]
 clear hgs hcap hfit htab hfew ha0 ha1 hb0 hz1 hi0
 go_enter Tryd.func23, Tryd.ntmps23
 go_upto_region 1 with (fail)
 refine wp_name fun W hW => ?_
 obtain ⟨B, hB⟩ : ∃ B, B = w1.heap.size := ⟨_, rfl⟩
 have hbel : Below w1.heap.size w1 W := by rw [hW.out]; exact belowBy
 have hlB : B < W.heap.size := by rw [hW.out, hB]; simp
 have HAW := Lib.hid (HH.out.below hbel)
 have HNB : Hid (B ≠ g ∧ B ≠ K ∧ B ≠ qi ∧ ¬ (fun b => b = g ∨ b = K ∨ b = qi ∨ b = qk ∨ sh.ownBlock = some b) B) := Lib.hid (by
  obtain ⟨h1, h2, h3, h4⟩ := HH.out.lts
  refine ⟨by omega, by omega, by omega, ?_⟩
  rintro (e | e | e | e | e)
  ·omega
  ·omega
  ·omega
  ·omega
  ·have := HOWN0.out B e; omega)
 have HC : Hid (∀ W', Buts (fun b => b = g ∨ b = K ∨ b = qi ∨ b = qk ∨ sh.ownBlock = some b) W W' → W'.cell? ⟨B, 0, none⟩ = some (.int .i64 i) ∧ W'.cell? ⟨B, 1, none⟩ = some (.int .i64 30) ∧ W'.cell? ⟨B, 2, none⟩ = some (.slice (some ⟨g, off, none⟩) 6 cx) ∧ B < W'.heap.size) := Lib.hid (fun W' hW' => by
  refine ⟨(hW'.cell B 0 hlB HNB.out.2.2.2).trans ?_, (hW'.cell B 1 hlB HNB.out.2.2.2).trans ?_, (hW'.cell B 2 hlB HNB.out.2.2.2).trans ?_, Nat.lt_of_lt_of_le hlB hW'.size⟩
  all_goals (rw [hW.out, hB]; go_simp))
 (try rw [← hB])
 clear hW hbel hB hlB HH
 have HU : Hid (Buts (fun b => b = g ∨ b = K ∨ b = qi ∨ b = qk ∨ sh.ownBlock = some b) W W) := Lib.hid (Buts.of_below (Below.refl _ _))
 obtain ⟨c0, c1, c2, lB⟩ := HC.out W HU.out
 have k4 := HAW.out.k4
 have lK := HAW.out.lts.2.1
 have HAX := Lib.hid (fun W' (hW' : Below W.heap.size W W') => (HAW.out.below hW').baxis (i := i) HT.out HCAP.out z0 (k0 : Int) true othK.a30 (by decide) HA0.out HN0.out.1 HN0.out.2.1)
 refine wp_region_ext (by kernel_rfl) (by kernel_rfl) ?_
 repeat (go_big_quiet_step ((go_at_call 18; exact ext_call (HAX.out _ (ext_below ⟨_, rfl⟩)))))
 refine wpQuiet_nil ?_
 intro wa hba
 replace hba := ext_below hba
 have HA1' := Lib.hid (HAW.out.below hba)
 have HU1' := Lib.hid (HU.out.trans (Buts.of_below hba))
 clear hba c0 c1 c2 lB k4 lK HAX HAW HU
 obtain ⟨c0, c1, c2, lB⟩ := HC.out wa HU1'.out
 go_wp2_with fail
 refine (HA1'.out.bget HT.out HCAP.out nmExecute 1 _ px_oth.2.1 (by decide) HA1.out).mono ?_
 rintro e wb ⟨rfl, hb⟩
 have HG1 := Lib.hid (HA1'.out.below hb)
 have HU1 := Lib.hid (HU1'.out.trans (Buts.of_below hb))
 clear hb c0 c1 c2 lB HA1' HU1'
 obtain ⟨c0, c1, c2, lB⟩ := HC.out wb HU1.out
 go_wp2_with fail
 refine (HG1.out.brises HT.out HCAP.out 1 5 _ _ _ px_oth.2.1 px_oth.2.2.1 (by decide) (by decide) HA1.out HB0.out HRI.out).mono ?_
 rintro e wc' ⟨rfl, hb⟩
 have HG2 := Lib.hid (HG1.out.below hb)
 have HU2 := Lib.hid (HU1.out.trans (Buts.of_below hb))
 clear hb c0 c1 c2 lB HG1 HU1
 obtain ⟨c0, c1, c2, lB⟩ := HC.out wc' HU2.out
 go_wp2_with fail
 refine (HG2.out.bset HT.out HCAP.out HFIT.out nmDone 3 false othK.d30 (by decide)).mono ?_
 rintro e wd ⟨rfl, hbt, hrw⟩
 have HG3 := Lib.hid (HG2.out.next hbt hrw (List.length_set ..))
 have HU3 := Lib.hid (HU2.out.trans (Buts.of_but hbt (.inl rfl)))
 clear hbt hrw c0 c1 c2 lB HG2 HU2
 obtain ⟨c0, c1, c2, lB⟩ := HC.out wd HU3.out
 go_wp2_with fail
 refine (HG3.out.bset HT.out HCAP.out HFIT.out nmError 4 false othK.e30 (by decide)).mono ?_
 rintro e we ⟨rfl, hbt, hrw⟩
 have HG4 := Lib.hid (HG3.out.next hbt hrw (List.length_set ..))
 have HU4 := Lib.hid (HU3.out.trans (Buts.of_but hbt (.inl rfl)))
 clear hbt hrw c0 c1 c2 lB HG3 HU3
 obtain ⟨c0, c1, c2, lB⟩ := HC.out we HU4.out
 go_upto_region 7 with (fail)
 obtain ⟨zB, hzB⟩ : ∃ z : List Int, z = ((zs.set (off + 3) (bif false then 1 else 0)).set (off + 4) (bif false then 1 else 0)) := ⟨_, rfl⟩
 have HZB := Lib.hid hzB
 have HG9 : Hid (GS w0 w we g K qi qk ax n V sh m nx zB) := Lib.hid (by rw [hzB]; exact HG4.out)
 clear hzB HG4
 obtain ⟨lg, lK, lq, lqk⟩ := HG9.out.lts
 obtain ⟨q0, xs0, hq0, hown0⟩ := HG9.out.osh
 have HOW := Lib.hid hown0
 have HROW : Hid (∀ b, sh.ownBlock = some b → w.heap.size ≤ b) := Lib.hid (fun b hb => (HOW.out.lt b hb).1)
 clear hown0
 obtain ⟨ps, hps⟩ : ∃ z, zB[off + 2]? = some z := ⟨_, List.getElem?_eq_getElem (by have := HG9.out.len; have := HFIT.out; omega)⟩
 have HPS := Lib.hid hps
 have HR : Hid (∀ W', Buts (fun b => b = K ∨ sh.ownBlock = some b) we W' → W'.cell? ⟨B, 0, none⟩ = some (.int .i64 i) ∧ W'.cell? ⟨B, 1, none⟩ = some (.int .i64 30) ∧ W'.cell? ⟨B, 2, none⟩ = some (.slice (some ⟨g, off, none⟩) 6 cx) ∧ B < W'.heap.size) := Lib.hid (fun W' hW' => by
  have n2 : ¬ (B = K ∨ sh.ownBlock = some B) := by
   rintro (e | e)
   ·exact HNB.out.2.1 e
   ·exact HNB.out.2.2.2 (.inr (.inr (.inr (.inr e))))
  have hz := hW'.size
  exact ⟨(hW'.cell B 0 lB n2).trans c0, (hW'.cell B 1 lB n2).trans c1, (hW'.cell B 2 lB n2).trans c2, by omega⟩)
 have HQ : Hid (∀ W', Below we.heap.size we W' → W'.cell? ⟨K, 3, none⟩ = some sh ∧ K < W'.heap.size) := Lib.hid (fun W' hW' => ⟨(hW'.cell (p := ⟨K, 3, none⟩) lK).trans HG9.out.k3, Nat.lt_of_lt_of_le lK hW'.size⟩)
 have HCD := Lib.hid (fun W' (hW' : Below we.heap.size we W') => (HG9.out.below hW').bget (i := i) HT.out HCAP.out ⟨#[80, 111, 115, 105, 116, 105, 111, 110]⟩ 2 ps px_oth.2.2.2.1 (by decide) HPS.out)
 obtain ⟨ci0, cz0, hi0, hz0', hz1', hz2', hz3'⟩ := shift_parts
 have HI := Lib.hid hi0
 have HZ0 := Lib.hid hz0'
 have HZS := Lib.hid hz1'
 have HS0 := Lib.hid hz2'
 have HBB := Lib.hid hz3'
 clear c0 c1 c2 lB lg lK lq lqk hi0 hz0' hz1' hz2' hz3' hps
 go_cut [] from 28 to 44 (fun wx => ∃ sh', Hid (GS w0 w wx g K qi qk ax n V sh' (m + 1) nx zB) ∧ Hid (Buts (fun b => b = g ∨ b = K ∨ b = qi ∨ b = qk ∨ sh.ownBlock = some b) W wx))
 case first =>
  have HBD : Hid (Below we.heap.size we we.drew) := Lib.hid (by exact belowBy)
  refine wp_region_held_drew (S := (fun W' => W'.cell? ⟨B, 0, none⟩ = some (.int .i64 i) ∧ W'.cell? ⟨B, 1, none⟩ = some (.int .i64 30) ∧ W'.cell? ⟨B, 2, none⟩ = some (.slice (some ⟨g, off, none⟩) 6 cx) ∧ B < W'.heap.size)) (by kernel_rfl) (HR.out _ (Buts.of_below HBD.out)) (fun hHeld => ?_)
  (try simp only [Act.put, List.setIfInBounds_toArray, List.set_cons_zero, List.set_cons_succ])
  (refine takeH (i := 0) (v := ?_) rfl (by kernel_rfl) (by kernel_rfl) (by kernel_rfl) (fun _ _ _ h => h) (Or.inl ⟨by first | kernel_rfl | rfl, ?_⟩) (by assumption) ?_; rotate_left; (focus (intro w' hSw; (try dsimp only at hSw); go_simp; try (with_reducible rfl))))
  (refine takeH (i := 1) (v := ?_) rfl (by kernel_rfl) (by kernel_rfl) (by kernel_rfl) (fun _ _ _ h => h) (Or.inl ⟨by first | kernel_rfl | rfl, ?_⟩) (by assumption) ?_; rotate_left; (focus (intro w' hSw; (try dsimp only at hSw); go_simp; try (with_reducible rfl))))
  (refine takeH (i := 2) (v := ?_) rfl (by kernel_rfl) (by kernel_rfl) (by kernel_rfl) (fun _ _ _ h => h) (Or.inl ⟨by first | kernel_rfl | rfl, ?_⟩) (by assumption) ?_; rotate_left; (focus (intro w' hSw; (try dsimp only at hSw); go_simp; try (with_reducible rfl))))
  (refine takeH (i := 3) (v := ?_) rfl (by kernel_rfl) (by kernel_rfl) (by kernel_rfl) (fun _ _ _ h => h) (Or.inl ⟨by first | kernel_rfl | rfl, ?_⟩) (by assumption) ?_; rotate_left; (focus (intro w' hSw; (try dsimp only at hSw); go_simp; try (with_reducible rfl))))
  (refine takeH (i := 4) (v := ?_) rfl (by kernel_rfl) (by kernel_rfl) (by kernel_rfl) (fun _ _ _ h => h) (Or.inl ⟨by first | kernel_rfl | rfl, ?_⟩) (by assumption) ?_; rotate_left; (focus (intro w' hSw; (try dsimp only at hSw); go_simp; try (with_reducible rfl))))
  (refine takeH (i := 6) (v := ?_) rfl (by kernel_rfl) (by kernel_rfl) (by kernel_rfl) (fun _ _ _ h => h) (Or.inl ⟨by first | kernel_rfl | rfl, ?_⟩) (by assumption) ?_; rotate_left; (focus (intro w' hSw; (try dsimp only at hSw); go_simp; try (with_reducible rfl))))
  (refine takeH (i := 7) (v := ?_) rfl (by kernel_rfl) (by kernel_rfl) (by kernel_rfl) (fun _ _ _ h => h) (Or.inl ⟨by first | kernel_rfl | rfl, ?_⟩) (by assumption) ?_; rotate_left; (focus (intro w' hSw; (try dsimp only at hSw); go_simp; try (with_reducible rfl))))
  (refine takeH (i := 8) (v := ?_) rfl (by kernel_rfl) (by kernel_rfl) (by kernel_rfl) (fun _ _ _ h => h) (Or.inl ⟨by first | kernel_rfl | rfl, ?_⟩) (by assumption) ?_; rotate_left; (focus (intro w' hSw; (try dsimp only at hSw); go_simp; try (with_reducible rfl))))
  (refine takeH (i := 9) (v := ?_) rfl (by kernel_rfl) (by kernel_rfl) (by kernel_rfl) (fun _ _ _ h => h) (Or.inl ⟨by first | kernel_rfl | rfl, ?_⟩) (by assumption) ?_; rotate_left; (focus (intro w' hSw; (try dsimp only at hSw); go_simp; try (with_reducible rfl))); (try simp only [Act.put, List.setIfInBounds_toArray, List.set_cons_zero, List.set_cons_succ]))
  refine twoH (i := 5) (j := 10) (by kernel_rfl) rfl rfl (fun Kc hK => ?o1) (fun Kc hK => ?o2)
  case' o1 =>
   have q11 := (HQ.out _ HBD.out).1
   have lq := (HQ.out _ HBD.out).2
   go_simp
   refine hK.out _ _ (HR.out _ (Buts.of_below HBD.out)) (fun hHeld => ?_)
   clear hK Kc q11 lq
   (try simp only [Act.put, List.setIfInBounds_toArray, List.set_cons_zero, List.set_cons_succ])
   refine oneH (i := 10) (by kernel_rfl) rfl (fun Kc hK => ?_)
   go_simp
   go_at_call 19
   refine (HCD.out _ HBD.out).mono ?_
   rintro e w11 ⟨rfl, hb11⟩
   have HB11 := Lib.hid (HBD.out.trans (hb11.mono HBD.out.size))
   clear hb11
   go_wp2_with fail
   refine hK.out _ _ (HR.out _ (Buts.of_below HB11.out)) (fun hHeld => ?_)
   clear hK Kc
   (try simp only [Act.put, List.setIfInBounds_toArray, List.set_cons_zero, List.set_cons_succ])
   (refine takeH (i := 11) (v := ?_) rfl (by kernel_rfl) (by kernel_rfl) (by kernel_rfl) (fun _ _ _ h => h) (Or.inl ⟨by first | kernel_rfl | rfl, ?_⟩) (by assumption) ?_; rotate_left; (focus (intro w' hSw; (try dsimp only at hSw); go_simp; try (with_reducible rfl))); (try simp only [Act.put, List.setIfInBounds_toArray, List.set_cons_zero, List.set_cons_succ]))
   refine oneH (i := 12) (by kernel_rfl) rfl (fun Kc hK => ?_)
   go_simp
   have HB11a : Hid (Below we.heap.size we (w11.alloc (.cells #[.int .i64 (k0 : Int), .int .i64 i, .int .i64 ps] 98))) := Lib.hid (below_new HB11.out (Nat.le_refl _) _)
   refine hK.out _ (w11.alloc (.cells #[.int .i64 (k0 : Int), .int .i64 i, .int .i64 ps] 98)) (HR.out _ (Buts.of_below HB11a.out)) (fun hHeld => ?_)
   clear hK Kc
   (try simp only [Act.put, List.setIfInBounds_toArray, List.set_cons_zero, List.set_cons_succ])
  case' o2 =>
   go_simp
   go_at_call 19
   refine (HCD.out _ HBD.out).mono ?_
   rintro e w11 ⟨rfl, hb11⟩
   have HB11 := Lib.hid (HBD.out.trans (hb11.mono HBD.out.size))
   clear hb11
   go_wp2_with fail
   refine hK.out _ _ (HR.out _ (Buts.of_below HB11.out)) (fun hHeld => ?_)
   clear hK Kc
   (try simp only [Act.put, List.setIfInBounds_toArray, List.set_cons_zero, List.set_cons_succ])
   (refine takeH (i := 11) (v := ?_) rfl (by kernel_rfl) (by kernel_rfl) (by kernel_rfl) (fun _ _ _ h => h) (Or.inl ⟨by first | kernel_rfl | rfl, ?_⟩) (by assumption) ?_; rotate_left; (focus (intro w' hSw; (try dsimp only at hSw); go_simp; try (with_reducible rfl))); (try simp only [Act.put, List.setIfInBounds_toArray, List.set_cons_zero, List.set_cons_succ]))
   refine twoH (i := 5) (j := 12) (by kernel_rfl) rfl rfl (fun Kc hK => ?o3) (fun Kc hK => ?o4)
  case' o3 =>
   have q11 := (HQ.out _ HB11.out).1
   have lq := (HQ.out _ HB11.out).2
   go_simp
   refine hK.out _ _ (HR.out _ (Buts.of_below HB11.out)) (fun hHeld => ?_)
   clear hK Kc q11 lq
   (try simp only [Act.put, List.setIfInBounds_toArray, List.set_cons_zero, List.set_cons_succ])
   refine oneH (i := 12) (by kernel_rfl) rfl (fun Kc hK => ?_)
   go_simp
   have HB11a : Hid (Below we.heap.size we (w11.alloc (.cells #[.int .i64 (k0 : Int), .int .i64 i, .int .i64 ps] 98))) := Lib.hid (below_new HB11.out (Nat.le_refl _) _)
   refine hK.out _ (w11.alloc (.cells #[.int .i64 (k0 : Int), .int .i64 i, .int .i64 ps] 98)) (HR.out _ (Buts.of_below HB11a.out)) (fun hHeld => ?_)
   clear hK Kc
   (try simp only [Act.put, List.setIfInBounds_toArray, List.set_cons_zero, List.set_cons_succ])
  case' o4 =>
   go_simp
   have HB11a : Hid (Below we.heap.size we (w11.alloc (.cells #[.int .i64 (k0 : Int), .int .i64 i, .int .i64 ps] 98))) := Lib.hid (below_new HB11.out (Nat.le_refl _) _)
   refine hK.out _ (w11.alloc (.cells #[.int .i64 (k0 : Int), .int .i64 i, .int .i64 ps] 98)) (HR.out _ (Buts.of_below HB11a.out)) (fun hHeld => ?_)
   clear hK Kc
   (try simp only [Act.put, List.setIfInBounds_toArray, List.set_cons_zero, List.set_cons_succ])
   refine oneH (i := 5) (by kernel_rfl) rfl (fun Kc hK => ?_)
   have q11 := (HQ.out _ HB11a.out).1
   have lq := (HQ.out _ HB11a.out).2
   go_simp
   refine hK.out _ _ (HR.out _ (Buts.of_below HB11a.out)) (fun hHeld => ?_)
   clear hK Kc q11 lq
   (try simp only [Act.put, List.setIfInBounds_toArray, List.set_cons_zero, List.set_cons_succ])
  all_goals
   refine oneH (i := 13) (by kernel_rfl) rfl (fun Kc hK => ?_)
   have hz11 := HB11.out.size
   have hmf := HFEW.out.2
   have hsz9 := HG9.out.size
   refine step_append_lies _ rfl (.tmp 33) (.tmp 40) 38 rfl w.heap.size 98 ci0 cz0 3 24 Tryd.underlying38 HI.out HZ0.out HS0.out HBB.out HZS.out (by decide) sh q0 xs0 rfl (owns_buts HOW.out (Buts.of_below (P := fun _ => False) HB11a.out) (fun _ _ h => h)) ⟨w11.heap.size, 0, none⟩ 1 1 [.int .i64 (k0 : Int), .int .i64 i, .int .i64 ps] rfl rfl ?cq4 ?cq6 (by decide) ?cq1 ?cq2 ?cq3 (w11.heap.size + 1) ?cq5 ?_
   case cq4 =>
    intro j u hu
    have had : (⟨w11.heap.size, 0, none⟩ : Addr).add j = ⟨w11.heap.size, j, none⟩ := by cases j <;> simp [Addr.add]
    rw [had]
    exact heap_cell j _ (heap_alloc_new w11 _) (by rw [List.getElem?_toArray]; exact hu)
   case cq6 => intro u hu; simp only [List.mem_cons, List.not_mem_nil, or_false] at hu; rcases hu with rfl | rfl | rfl <;> rfl
   case cq1 => unfold maxLen; omega
   case cq2 => omega
   case cq3 => first | omega | (simp; omega)
   case cq5 => simp
   intro hh kc w12 hown hgrow hatg hlt
   have HGB : Hid (Buts (fun b => sh.ownBlock = some b) we w12) := Lib.hid (Buts.of_grown HB11a.out hgrow)
   have HNEW : Hid (w12.ownsRow w.heap.size 98 3 (.slice (some ⟨hh, 0, none⟩) (q0 + 1) kc) (q0 + 1) (xs0 ++ [.int .i64 (k0 : Int), .int .i64 i, .int .i64 ps])) := Lib.hid hown
   have HAT : Hid (sh.ownBlock = some hh ∨ we.heap.size ≤ hh) := Lib.hid (hatg.imp id fun h => by omega)
   clear hown hgrow hatg hlt hz11 hmf hsz9
   have HGQ : Hid (Buts (fun b => b = K ∨ sh.ownBlock = some b) we w12) := Lib.hid (HGB.out.mono fun b hb => .inr hb)
   refine hK.out _ _ (HR.out _ HGQ.out) (fun hHeld => ?_)
   clear hK Kc
   (try simp only [Act.put, List.setIfInBounds_toArray, List.set_cons_zero, List.set_cons_succ])
   (refine takeH (i := 14) (v := ?_) rfl (by kernel_rfl) (by kernel_rfl) (by kernel_rfl) (fun _ _ _ h => h) (Or.inl ⟨by first | kernel_rfl | rfl, ?_⟩) (by assumption) ?_; rotate_left; (focus (intro w' hSw; (try dsimp only at hSw); go_simp; try (with_reducible rfl))))
   (refine takeH (i := 15) (v := ?_) rfl (by kernel_rfl) (by kernel_rfl) (by kernel_rfl) (fun _ _ _ h => h) (Or.inl ⟨by first | kernel_rfl | rfl, ?_⟩) (by assumption) ?_; rotate_left; (focus (intro w' hSw; (try dsimp only at hSw); go_simp; try (with_reducible rfl))))
   (refine takeH (i := 16) (v := ?_) rfl (by kernel_rfl) (by kernel_rfl) (by kernel_rfl) (fun _ _ _ h => h) (Or.inl ⟨by first | kernel_rfl | rfl, ?_⟩) (by assumption) ?_; rotate_left; (focus (intro w' hSw; (try dsimp only at hSw); go_simp; try (with_reducible rfl))); (try simp only [Act.put, List.setIfInBounds_toArray, List.set_cons_zero, List.set_cons_succ]))
   have hnK : ¬ sh.ownBlock = some K := fun e => by have := HROW.out K e; have := HG9.out.lt.2.1; omega
   have q11 : w12.cell? ⟨K, 3, none⟩ = some sh := (HGB.out.cell K _ HG9.out.lts.2.1 hnK).trans HG9.out.k3
   have qf11 : w12.frozen? ⟨K, 3, none⟩ = false := (HGB.out.froz K _ HG9.out.lts.2.1 hnK).trans (HG9.out.kf _)
   have lq : K < w12.heap.size := Nat.lt_of_lt_of_le HG9.out.lts.2.1 HGB.out.size
   clear hnK
   refine oneH (i := 17) (by kernel_rfl) rfl (fun Kc hK => ?_)
   go_simp
   refine hK.out _ _ (HR.out _ (HGQ.out.trans (Buts.of_but ((But.refl K _).set _ _) (.inl rfl)))) (fun hHeld => ?_)
   clear hK Kc q11 qf11 lq
   (try simp only [Act.put, List.setIfInBounds_toArray, List.set_cons_zero, List.set_cons_succ])
   refine wpAnyH_done (by kernel_rfl) ?_ _
   (try simp only [Act.put, List.setIfInBounds_toArray, List.set_cons_zero, List.set_cons_succ])
   go_wp2_with fail
   go_meet
   case rel => exact ⟨_, Lib.hid (HG9.out.shifted HGB.out HNEW.out (by omega) HAT.out), Lib.hid ((HU4.out.trans (HGB.out.mono fun b hb => .inr (.inr (.inr (.inr hb))))).trans (Buts.of_but ((But.refl K _).set _ _) (.inr (.inl rfl))))⟩
 case rest =>
  obtain ⟨sh', HG20, HU20⟩ := hcut
  clear HR HQ HCD HI HZ0 HZS HS0 HBB HOW HG9 HU4
  obtain ⟨c0, c1, c2, lB⟩ := HC.out wc HU20.out
  go_wp2_with fail
  refine (HG20.out.binner HT.out HCAP.out 0 5 px_oth.2.2.1 (by decide)).mono ?_
  rintro e wt1 ⟨rfl, hb⟩
  have HG5 := Lib.hid (HG20.out.below hb)
  have HU5 := Lib.hid (HU20.out.trans (Buts.of_below hb))
  clear hb c0 c1 c2 lB HG20 HU20
  have hlz := HG5.out.len
  have hft := HFIT.out
  obtain ⟨zx, hzx⟩ : ∃ z, _ = some z := ⟨_, List.getElem?_eq_getElem (show off + 5 < _ by rw [hlz]; omega)⟩
  have cz := HG5.out.row.cell _ _ hzx
  have cf := HG5.out.row.free (off + 5)
  have lg := HG5.out.lts.1
  clear hzx hlz hft
  go_upto_region 12 with (fail)
  refine wp_name fun wt2 hw => ?_
  have HG6 := Lib.hid (show GS w0 w wt2 g K qi qk ax n V sh' (m + 1) nx _ from by rw [hw.out]; exact HG5.out.put _ 0)
  have HU6 : Hid (Buts (fun b => b = g ∨ b = K ∨ b = qi ∨ b = qk ∨ sh.ownBlock = some b) W wt2) := Lib.hid (by rw [hw.out]; exact HU5.out.trans (Buts.of_but ((But.refl g _).set _ _) (.inl rfl)))
  clear hw cz cf lg HG5 HU5
  obtain ⟨c0, c1, c2, lB⟩ := HC.out wt2 HU6.out
  go_wp2_with fail
  refine (HG6.out.binner HT.out HCAP.out 0 5 px_oth.2.2.1 (by decide)).mono ?_
  rintro e wt3 ⟨rfl, hb⟩
  have HG7 := Lib.hid (HG6.out.below hb)
  have HU7 := Lib.hid (HU6.out.trans (Buts.of_below hb))
  clear hb c0 c1 c2 lB HG6 HU6
  have hlz := HG7.out.len
  have hft := HFIT.out
  obtain ⟨zx, hzx⟩ : ∃ z, _ = some z := ⟨_, List.getElem?_eq_getElem (show off + 5 < _ by rw [hlz]; omega)⟩
  have cz := HG7.out.row.cell _ _ hzx
  have cf := HG7.out.row.free (off + 5)
  have lg := HG7.out.lts.1
  clear hzx hlz hft
  go_wp2
  refine bodyPost_end (results_none rfl _ _ _) rfl ⟨rfl, _, _, _, _, (HG7.out.put (off + (5 + 0)) 1), by rw [HZB.out]; exact StepR.other (((((OnlyAt.refl _ _ _).set (by rw [othK.c30]; decide) _).set (by rw [othK.c30]; decide) _).set (by rw [othK.c30]; decide) _).set (by rw [othK.c30]; decide) _) rfl⟩

set_option maxRecDepth 100000 in
set_option maxHeartbeats 4000000 in
theorem places3_at (i : Int) (off cx g K qi qk ax n m : Nat) (V : Nat → Value) (sh : Value) (nx : Int) (zs : List Int) (z0 z1 i0 : Int) (w0 w w1 : World) (h : OtIn w0 w w1 g K qi qk ax n V sh m nx zs off 6 cx z0 z1) (hb0 : zs[off + 5]? = some i0) (hz1 : z1 = 0) :
  Calls Tryd.prog 23 #[.pointer (some ⟨K, 0, none⟩), insV i 30 (some ⟨g, off, none⟩) 6 cx] w1 (OtOut w0 w g K qi qk ax n m zs 30 off) := by
 show Calls Tryd.prog 23 #[.pointer (some ⟨K, 0, none⟩), .agg #[.int .i64 i, .int .i64 30, .slice (some ⟨g, off, none⟩) 6 cx]] w1 _
 obtain ⟨hgs, hcap, hfit, htab, hfew, ha0, ha1⟩ := h
 have HT := Lib.hid htab
 have HH := Lib.hid hgs
 have HA0 := Lib.hid ha0
 have HA1 := Lib.hid ha1
 have HCAP := Lib.hid hcap
 have HFIT := Lib.hid hfit
 have HLEN := Lib.hid hgs.len
 have HFEW := Lib.hid hfew
 have HB0 := Lib.hid hb0
 obtain ⟨na, hna⟩ : ∃ x, axN z0 = x := ⟨_, rfl⟩
 obtain ⟨ok, hok⟩ : ∃ b, axOk z0 ax = b := ⟨_, rfl⟩
 have HN0 : Hid (axN z0 = na ∧ axOk z0 ax = ok) := Lib.hid ⟨hna, hok⟩
 clear hok hna
 have HRI : Hid ((decide (z1 ≠ 0) && decide (i0 = 0)) = false) := Lib.hid (by simp [hz1])
 subst hz1
 clear hgs hcap hfit htab hfew ha0 ha1 hb0
 go_enter Tryd.func23, Tryd.ntmps23
 go_upto_region 1 with (fail)
 refine wp_name fun W hW => ?_
 obtain ⟨B, hB⟩ : ∃ B, B = w1.heap.size := ⟨_, rfl⟩
 have hbel : Below w1.heap.size w1 W := by rw [hW.out]; exact belowBy
 have hlB : B < W.heap.size := by rw [hW.out, hB]; simp
 have HAW := Lib.hid (HH.out.below hbel)
 have HNB : Hid (B ≠ g ∧ B ≠ K ∧ B ≠ qi ∧ ¬ (fun b => b = g ∨ b = K ∨ b = qi ∨ b = qk) B) := Lib.hid (by
  obtain ⟨h1, h2, h3, h4⟩ := HH.out.lts
  refine ⟨by omega, by omega, by omega, ?_⟩
  rintro (e | e | e | e) <;> omega)
 have HC : Hid (∀ W', Buts (fun b => b = g ∨ b = K ∨ b = qi ∨ b = qk) W W' → W'.cell? ⟨B, 0, none⟩ = some (.int .i64 i) ∧ W'.cell? ⟨B, 1, none⟩ = some (.int .i64 30) ∧ W'.cell? ⟨B, 2, none⟩ = some (.slice (some ⟨g, off, none⟩) 6 cx) ∧ B < W'.heap.size) := Lib.hid (fun W' hW' => by
  refine ⟨(hW'.cell B 0 hlB HNB.out.2.2.2).trans ?_, (hW'.cell B 1 hlB HNB.out.2.2.2).trans ?_, (hW'.cell B 2 hlB HNB.out.2.2.2).trans ?_, Nat.lt_of_lt_of_le hlB hW'.size⟩
  all_goals (rw [hW.out, hB]; go_simp))
 (try rw [← hB])
 clear hW hbel hB hlB HH
 have HU : Hid (Buts (fun b => b = g ∨ b = K ∨ b = qi ∨ b = qk) W W) := Lib.hid (Buts.of_below (Below.refl _ _))
 obtain ⟨c0, c1, c2, lB⟩ := HC.out W HU.out
 have k4 := HAW.out.k4
 have lK := HAW.out.lts.2.1
 have HAX := Lib.hid (fun W' (hW' : Below W.heap.size W W') => (HAW.out.below hW').baxis (i := i) HT.out HCAP.out z0 na ok othK.a30 (by decide) HA0.out HN0.out.1 HN0.out.2)
 refine wp_region_ext (by kernel_rfl) (by kernel_rfl) ?_
 repeat (go_big_quiet_step ((go_at_call 18; exact ext_call (HAX.out _ (ext_below ⟨_, rfl⟩)))))
 refine wpQuiet_nil ?_
 intro wa hba
 replace hba := ext_below hba
 have HA1' := Lib.hid (HAW.out.below hba)
 have HU1' := Lib.hid (HU.out.trans (Buts.of_below hba))
 clear hba c0 c1 c2 lB k4 lK HAX HAW HU
 obtain ⟨c0, c1, c2, lB⟩ := HC.out wa HU1'.out
 go_wp2_with fail
 refine (HA1'.out.bget HT.out HCAP.out nmExecute 1 _ px_oth.2.1 (by decide) HA1.out).mono ?_
 rintro e wb ⟨rfl, hb⟩
 have HG1 := Lib.hid (HA1'.out.below hb)
 have HU1 := Lib.hid (HU1'.out.trans (Buts.of_below hb))
 clear hb c0 c1 c2 lB HA1' HU1'
 obtain ⟨c0, c1, c2, lB⟩ := HC.out wb HU1.out
 go_wp2_with fail
 refine (HG1.out.brises HT.out HCAP.out 1 5 _ _ _ px_oth.2.1 px_oth.2.2.1 (by decide) (by decide) HA1.out HB0.out HRI.out).mono ?_
 rintro e wc' ⟨rfl, hb⟩
 have HG2 := Lib.hid (HG1.out.below hb)
 have HU2 := Lib.hid (HU1.out.trans (Buts.of_below hb))
 clear hb c0 c1 c2 lB HG1 HU1
 obtain ⟨c0, c1, c2, lB⟩ := HC.out wc' HU2.out
 go_wp2_with fail
 refine (HG2.out.bset HT.out HCAP.out HFIT.out nmDone 3 false othK.d30 (by decide)).mono ?_
 rintro e wd ⟨rfl, hbt, hrw⟩
 have HG3 := Lib.hid (HG2.out.next hbt hrw (List.length_set ..))
 have HU3 := Lib.hid (HU2.out.trans (Buts.of_but hbt (.inl rfl)))
 clear hbt hrw c0 c1 c2 lB HG2 HU2
 obtain ⟨c0, c1, c2, lB⟩ := HC.out wd HU3.out
 go_wp2_with fail
 refine (HG3.out.bset HT.out HCAP.out HFIT.out nmError 4 false othK.e30 (by decide)).mono ?_
 rintro e we ⟨rfl, hbt, hrw⟩
 have HG4 := Lib.hid (HG3.out.next hbt hrw (List.length_set ..))
 have HU4 := Lib.hid (HU3.out.trans (Buts.of_but hbt (.inl rfl)))
 clear hbt hrw c0 c1 c2 lB HG3 HU3
 obtain ⟨c0, c1, c2, lB⟩ := HC.out we HU4.out
 go_wp2_with fail
 refine (HG4.out.binner HT.out HCAP.out 0 5 px_oth.2.2.1 (by decide)).mono ?_
 rintro e wt1 ⟨rfl, hb⟩
 have HG5 := Lib.hid (HG4.out.below hb)
 have HU5 := Lib.hid (HU4.out.trans (Buts.of_below hb))
 clear hb c0 c1 c2 lB HG4 HU4
 have hlz := HG5.out.len
 have hft := HFIT.out
 obtain ⟨zx, hzx⟩ : ∃ z, _ = some z := ⟨_, List.getElem?_eq_getElem (show off + 5 < _ by rw [hlz]; omega)⟩
 have cz := HG5.out.row.cell _ _ hzx
 have cf := HG5.out.row.free (off + 5)
 have lg := HG5.out.lts.1
 clear hzx hlz hft
 go_wp2
 refine bodyPost_end (results_none rfl _ _ _) rfl ⟨rfl, _, _, _, _, (HG5.out.put (off + (5 + 0)) 0).more (Nat.le_succ m), StepR.other ((((OnlyAt.refl _ _ _).set (by rw [othK.c30]; decide) _).set (by rw [othK.c30]; decide) _).set (by rw [othK.c30]; decide) _) rfl⟩

set_option maxRecDepth 100000 in
set_option maxHeartbeats 4000000 in
theorem places4_at (i : Int) (off cx g K qi qk ax n m : Nat) (V : Nat → Value) (sh : Value) (nx : Int) (zs : List Int) (z0 z1 i0 : Int) (w0 w w1 : World) (h : OtIn w0 w w1 g K qi qk ax n V sh m nx zs off 6 cx z0 z1) (hb0 : zs[off + 5]? = some i0) (hz1 : z1 ≠ 0) (hi0 : i0 ≠ 0) :
  Calls Tryd.prog 23 #[.pointer (some ⟨K, 0, none⟩), insV i 30 (some ⟨g, off, none⟩) 6 cx] w1 (OtOut w0 w g K qi qk ax n m zs 30 off) := by
 show Calls Tryd.prog 23 #[.pointer (some ⟨K, 0, none⟩), .agg #[.int .i64 i, .int .i64 30, .slice (some ⟨g, off, none⟩) 6 cx]] w1 _
 obtain ⟨hgs, hcap, hfit, htab, hfew, ha0, ha1⟩ := h
 have HT := Lib.hid htab
 have HH := Lib.hid hgs
 have HA0 := Lib.hid ha0
 have HA1 := Lib.hid ha1
 have HCAP := Lib.hid hcap
 have HFIT := Lib.hid hfit
 have HLEN := Lib.hid hgs.len
 have HFEW := Lib.hid hfew
 have HB0 := Lib.hid hb0
 obtain ⟨na, hna⟩ : ∃ x, axN z0 = x := ⟨_, rfl⟩
 obtain ⟨ok, hok⟩ : ∃ b, axOk z0 ax = b := ⟨_, rfl⟩
 have HN0 : Hid (axN z0 = na ∧ axOk z0 ax = ok) := Lib.hid ⟨hna, hok⟩
 clear hok hna
 have HRI : Hid ((decide (z1 ≠ 0) && decide (i0 = 0)) = false) := Lib.hid (by simp [hi0])
 have u1 : (z1 != 0) = true := by simp [hz1]
 have u1' : (z1 == 0) = false := by simp [hz1]
 clear hgs hcap hfit htab hfew ha0 ha1 hb0 hz1 hi0
 go_enter Tryd.func23, Tryd.ntmps23
 go_upto_region 1 with (fail)
 refine wp_name fun W hW => ?_
 obtain ⟨B, hB⟩ : ∃ B, B = w1.heap.size := ⟨_, rfl⟩
 have hbel : Below w1.heap.size w1 W := by rw [hW.out]; exact belowBy
 have hlB : B < W.heap.size := by rw [hW.out, hB]; simp
 have HAW := Lib.hid (HH.out.below hbel)
 have HNB : Hid (B ≠ g ∧ B ≠ K ∧ B ≠ qi ∧ ¬ (fun b => b = g ∨ b = K ∨ b = qi ∨ b = qk) B) := Lib.hid (by
  obtain ⟨h1, h2, h3, h4⟩ := HH.out.lts
  refine ⟨by omega, by omega, by omega, ?_⟩
  rintro (e | e | e | e) <;> omega)
 have HC : Hid (∀ W', Buts (fun b => b = g ∨ b = K ∨ b = qi ∨ b = qk) W W' → W'.cell? ⟨B, 0, none⟩ = some (.int .i64 i) ∧ W'.cell? ⟨B, 1, none⟩ = some (.int .i64 30) ∧ W'.cell? ⟨B, 2, none⟩ = some (.slice (some ⟨g, off, none⟩) 6 cx) ∧ B < W'.heap.size) := Lib.hid (fun W' hW' => by
  refine ⟨(hW'.cell B 0 hlB HNB.out.2.2.2).trans ?_, (hW'.cell B 1 hlB HNB.out.2.2.2).trans ?_, (hW'.cell B 2 hlB HNB.out.2.2.2).trans ?_, Nat.lt_of_lt_of_le hlB hW'.size⟩
  all_goals (rw [hW.out, hB]; go_simp))
 (try rw [← hB])
 clear hW hbel hB hlB HH
 have HU : Hid (Buts (fun b => b = g ∨ b = K ∨ b = qi ∨ b = qk) W W) := Lib.hid (Buts.of_below (Below.refl _ _))
 obtain ⟨c0, c1, c2, lB⟩ := HC.out W HU.out
 have k4 := HAW.out.k4
 have lK := HAW.out.lts.2.1
 have HAX := Lib.hid (fun W' (hW' : Below W.heap.size W W') => (HAW.out.below hW').baxis (i := i) HT.out HCAP.out z0 na ok othK.a30 (by decide) HA0.out HN0.out.1 HN0.out.2)
 refine wp_region_ext (by kernel_rfl) (by kernel_rfl) ?_
 repeat (go_big_quiet_step ((go_at_call 18; exact ext_call (HAX.out _ (ext_below ⟨_, rfl⟩)))))
 refine wpQuiet_nil ?_
 intro wa hba
 replace hba := ext_below hba
 have HA1' := Lib.hid (HAW.out.below hba)
 have HU1' := Lib.hid (HU.out.trans (Buts.of_below hba))
 clear hba c0 c1 c2 lB k4 lK HAX HAW HU
 obtain ⟨c0, c1, c2, lB⟩ := HC.out wa HU1'.out
 go_wp2_with fail
 refine (HA1'.out.bget HT.out HCAP.out nmExecute 1 _ px_oth.2.1 (by decide) HA1.out).mono ?_
 rintro e wb ⟨rfl, hb⟩
 have HG1 := Lib.hid (HA1'.out.below hb)
 have HU1 := Lib.hid (HU1'.out.trans (Buts.of_below hb))
 clear hb c0 c1 c2 lB HA1' HU1'
 obtain ⟨c0, c1, c2, lB⟩ := HC.out wb HU1.out
 go_wp2_with fail
 refine (HG1.out.brises HT.out HCAP.out 1 5 _ _ _ px_oth.2.1 px_oth.2.2.1 (by decide) (by decide) HA1.out HB0.out HRI.out).mono ?_
 rintro e wc' ⟨rfl, hb⟩
 have HG2 := Lib.hid (HG1.out.below hb)
 have HU2 := Lib.hid (HU1.out.trans (Buts.of_below hb))
 clear hb c0 c1 c2 lB HG1 HU1
 obtain ⟨c0, c1, c2, lB⟩ := HC.out wc' HU2.out
 go_wp2_with fail
 refine (HG2.out.binner HT.out HCAP.out 0 5 px_oth.2.2.1 (by decide)).mono ?_
 rintro e wt1 ⟨rfl, hb⟩
 have HG3 := Lib.hid (HG2.out.below hb)
 have HU3 := Lib.hid (HU2.out.trans (Buts.of_below hb))
 clear hb c0 c1 c2 lB HG2 HU2
 have hlz := HG3.out.len
 have hft := HFIT.out
 obtain ⟨zx, hzx⟩ : ∃ z, _ = some z := ⟨_, List.getElem?_eq_getElem (show off + 5 < _ by rw [hlz]; omega)⟩
 have cz := HG3.out.row.cell _ _ hzx
 have cf := HG3.out.row.free (off + 5)
 have lg := HG3.out.lts.1
 clear hzx hlz hft
 go_upto_region 12 with (fail)
 refine wp_name fun wt2 hw => ?_
 have HG4 := Lib.hid (show GS w0 w wt2 g K qi qk ax n V sh m nx _ from by rw [hw.out]; exact HG3.out.put _ 0)
 have HU4 : Hid (Buts (fun b => b = g ∨ b = K ∨ b = qi ∨ b = qk) W wt2) := Lib.hid (by rw [hw.out]; exact HU3.out.trans (Buts.of_but ((But.refl g _).set _ _) (.inl rfl)))
 clear hw cz cf lg HG3 HU3
 obtain ⟨c0, c1, c2, lB⟩ := HC.out wt2 HU4.out
 go_wp2_with fail
 refine (HG4.out.binner HT.out HCAP.out 0 5 px_oth.2.2.1 (by decide)).mono ?_
 rintro e wt3 ⟨rfl, hb⟩
 have HG5 := Lib.hid (HG4.out.below hb)
 have HU5 := Lib.hid (HU4.out.trans (Buts.of_below hb))
 clear hb c0 c1 c2 lB HG4 HU4
 have hlz := HG5.out.len
 have hft := HFIT.out
 obtain ⟨zx, hzx⟩ : ∃ z, _ = some z := ⟨_, List.getElem?_eq_getElem (show off + 5 < _ by rw [hlz]; omega)⟩
 have cz := HG5.out.row.cell _ _ hzx
 have cf := HG5.out.row.free (off + 5)
 have lg := HG5.out.lts.1
 clear hzx hlz hft
 go_wp2
 refine bodyPost_end (results_none rfl _ _ _) rfl ⟨rfl, _, _, _, _, (HG5.out.put (off + (5 + 0)) 1).more (Nat.le_succ m), StepR.other (((OnlyAt.refl _ _ _).set (by rw [othK.c30]; decide) _).set (by rw [othK.c30]; decide) _) rfl⟩

set_option maxRecDepth 100000 in
set_option maxHeartbeats 4000000 in
theorem percents1_at (i : Int) (off cx g K qi qk ax n m : Nat) (V : Nat → Value) (sh : Value) (nx : Int) (zs : List Int) (z0 z1 : Int) (w0 w w1 : World) (h : OtIn w0 w w1 g K qi qk ax n V sh m nx zs off 4 cx z0 z1) (hok : axOk z0 ax = false) :
  Calls Tryd.prog 24 #[.pointer (some ⟨K, 0, none⟩), insV i 31 (some ⟨g, off, none⟩) 4 cx] w1 (OtOut w0 w g K qi qk ax n m zs 31 off) := by
 show Calls Tryd.prog 24 #[.pointer (some ⟨K, 0, none⟩), .agg #[.int .i64 i, .int .i64 31, .slice (some ⟨g, off, none⟩) 4 cx]] w1 _
 obtain ⟨hgs, hcap, hfit, htab, hfew, ha0, ha1⟩ := h
 have HT := Lib.hid htab
 have HH := Lib.hid hgs
 have HA0 := Lib.hid ha0
 have HA1 := Lib.hid ha1
 have HCAP := Lib.hid hcap
 have HFIT := Lib.hid hfit
 have HLEN := Lib.hid hgs.len
 have HFEW := Lib.hid hfew
 obtain ⟨na, hna⟩ : ∃ x, axN z0 = x := ⟨_, rfl⟩
 have HN0 : Hid (axN z0 = na ∧ axOk z0 ax = false) := Lib.hid ⟨hna, hok⟩
 clear hok hna
 clear hgs hcap hfit htab hfew ha0 ha1
 go_enter Tryd.func24, Tryd.ntmps24
 go_upto_region 1 with (fail)
 refine wp_name fun W hW => ?_
 obtain ⟨B, hB⟩ : ∃ B, B = w1.heap.size := ⟨_, rfl⟩
 have hbel : Below w1.heap.size w1 W := by rw [hW.out]; exact belowBy
 have hlB : B < W.heap.size := by rw [hW.out, hB]; simp
 have HAW := Lib.hid (HH.out.below hbel)
 have HNB : Hid (B ≠ g ∧ B ≠ K ∧ B ≠ qi ∧ ¬ (fun b => b = g ∨ b = K ∨ b = qi ∨ b = qk) B) := Lib.hid (by
  obtain ⟨h1, h2, h3, h4⟩ := HH.out.lts
  refine ⟨by omega, by omega, by omega, ?_⟩
  rintro (e | e | e | e) <;> omega)
 have HC : Hid (∀ W', Buts (fun b => b = g ∨ b = K ∨ b = qi ∨ b = qk) W W' → W'.cell? ⟨B, 0, none⟩ = some (.int .i64 i) ∧ W'.cell? ⟨B, 1, none⟩ = some (.int .i64 31) ∧ W'.cell? ⟨B, 2, none⟩ = some (.slice (some ⟨g, off, none⟩) 4 cx) ∧ B < W'.heap.size) := Lib.hid (fun W' hW' => by
  refine ⟨(hW'.cell B 0 hlB HNB.out.2.2.2).trans ?_, (hW'.cell B 1 hlB HNB.out.2.2.2).trans ?_, (hW'.cell B 2 hlB HNB.out.2.2.2).trans ?_, Nat.lt_of_lt_of_le hlB hW'.size⟩
  all_goals (rw [hW.out, hB]; go_simp))
 (try rw [← hB])
 clear hW hbel hB hlB HH
 have HU : Hid (Buts (fun b => b = g ∨ b = K ∨ b = qi ∨ b = qk) W W) := Lib.hid (Buts.of_below (Below.refl _ _))
 obtain ⟨c0, c1, c2, lB⟩ := HC.out W HU.out
 have k4 := HAW.out.k4
 have lK := HAW.out.lts.2.1
 have HAX := Lib.hid (fun W' (hW' : Below W.heap.size W W') => (HAW.out.below hW').baxis (i := i) HT.out HCAP.out z0 na false othK.a31 (by decide) HA0.out HN0.out.1 HN0.out.2)
 refine wp_region_ext (by kernel_rfl) (by kernel_rfl) ?_
 repeat (go_big_quiet_step ((go_at_call 18; exact ext_call (HAX.out _ (ext_below ⟨_, rfl⟩)))))
 refine wpQuiet_nil ?_
 intro wa hba
 replace hba := ext_below hba
 have HA1' := Lib.hid (HAW.out.below hba)
 have HU1' := Lib.hid (HU.out.trans (Buts.of_below hba))
 clear hba c0 c1 c2 lB k4 lK HAX HAW HU
 obtain ⟨c0, c1, c2, lB⟩ := HC.out wa HU1'.out
 go_wp2_with fail
 refine (HA1'.out.bset HT.out HCAP.out HFIT.out ⟨#[69, 110, 97, 98, 108, 101, 100]⟩ 3 false px_oth.2.2.2.2.2.1 (by decide)).mono ?_
 rintro e wd ⟨rfl, hbt, hrw⟩
 have HG1 := Lib.hid (HA1'.out.next hbt hrw (List.length_set ..))
 have HU1 := Lib.hid (HU1'.out.trans (Buts.of_but hbt (.inl rfl)))
 clear hbt hrw c0 c1 c2 lB HA1' HU1'
 obtain ⟨c0, c1, c2, lB⟩ := HC.out wd HU1.out
 go_wp2
 refine bodyPost_end (results_none rfl _ _ _) rfl ⟨rfl, _, _, _, _, HG1.out.more (Nat.le_succ m), StepR.other ((OnlyAt.refl _ _ _).set (by rw [othK.c31]; decide) _) rfl⟩

set_option maxRecDepth 100000 in
set_option maxHeartbeats 4000000 in
theorem percents2_at (i : Int) (off cx g K qi qk ax n m k0 : Nat) (V : Nat → Value) (sh : Value) (nx : Int) (zs : List Int) (z0 z1 : Int) (w0 w w1 : World) (h : OtIn w0 w w1 g K qi qk ax n V sh m nx zs off 4 cx z0 z1) (hz1 : z1 = 0) (hk0 : z0 = (k0 : Int) ∧ k0 < ax) :
  Calls Tryd.prog 24 #[.pointer (some ⟨K, 0, none⟩), insV i 31 (some ⟨g, off, none⟩) 4 cx] w1 (OtOut w0 w g K qi qk ax n m zs 31 off) := by
 show Calls Tryd.prog 24 #[.pointer (some ⟨K, 0, none⟩), .agg #[.int .i64 i, .int .i64 31, .slice (some ⟨g, off, none⟩) 4 cx]] w1 _
 obtain ⟨hgs, hcap, hfit, htab, hfew, ha0, ha1⟩ := h
 have HT := Lib.hid htab
 have HH := Lib.hid hgs
 have HA0 := Lib.hid ha0
 have HA1 := Lib.hid ha1
 have HCAP := Lib.hid hcap
 have HFIT := Lib.hid hfit
 have HLEN := Lib.hid hgs.len
 have HFEW := Lib.hid hfew
 have HN0 : Hid (axN z0 = (k0 : Int) ∧ axOk z0 ax = true ∧ k0 < ax) := Lib.hid (by
  obtain ⟨rfl, hk⟩ := hk0
  unfold axN axOk
  refine ⟨by omega, ?_, hk⟩
  rw [decide_eq_true (show (0 : Int) ≤ (k0 : Int) by omega), decide_eq_true (show (k0 : Int) < (ax : Int) by omega)]
  rfl)
 have hkI : (0 : Int) ≤ (k0 : Int) ∧ (k0 : Int) < (ax : Int) := by omega
 clear hk0
 subst hz1
 clear hgs hcap hfit htab hfew ha0 ha1
 go_enter Tryd.func24, Tryd.ntmps24
 go_upto_region 1 with (fail)
 refine wp_name fun W hW => ?_
 obtain ⟨B, hB⟩ : ∃ B, B = w1.heap.size := ⟨_, rfl⟩
 have hbel : Below w1.heap.size w1 W := by rw [hW.out]; exact belowBy
 have hlB : B < W.heap.size := by rw [hW.out, hB]; simp
 have HAW := Lib.hid (HH.out.below hbel)
 have HNB : Hid (B ≠ g ∧ B ≠ K ∧ B ≠ qi ∧ ¬ (fun b => b = g ∨ b = K ∨ b = qi ∨ b = qk) B) := Lib.hid (by
  obtain ⟨h1, h2, h3, h4⟩ := HH.out.lts
  refine ⟨by omega, by omega, by omega, ?_⟩
  rintro (e | e | e | e) <;> omega)
 have HC : Hid (∀ W', Buts (fun b => b = g ∨ b = K ∨ b = qi ∨ b = qk) W W' → W'.cell? ⟨B, 0, none⟩ = some (.int .i64 i) ∧ W'.cell? ⟨B, 1, none⟩ = some (.int .i64 31) ∧ W'.cell? ⟨B, 2, none⟩ = some (.slice (some ⟨g, off, none⟩) 4 cx) ∧ B < W'.heap.size) := Lib.hid (fun W' hW' => by
  refine ⟨(hW'.cell B 0 hlB HNB.out.2.2.2).trans ?_, (hW'.cell B 1 hlB HNB.out.2.2.2).trans ?_, (hW'.cell B 2 hlB HNB.out.2.2.2).trans ?_, Nat.lt_of_lt_of_le hlB hW'.size⟩
  all_goals (rw [hW.out, hB]; go_simp))
 (try rw [← hB])
 clear hW hbel hB hlB HH
 have HU : Hid (Buts (fun b => b = g ∨ b = K ∨ b = qi ∨ b = qk) W W) := Lib.hid (Buts.of_below (Below.refl _ _))
 obtain ⟨c0, c1, c2, lB⟩ := HC.out W HU.out
 have k4 := HAW.out.k4
 have lK := HAW.out.lts.2.1
 have HAX := Lib.hid (fun W' (hW' : Below W.heap.size W W') => (HAW.out.below hW').baxis (i := i) HT.out HCAP.out z0 (k0 : Int) true othK.a31 (by decide) HA0.out HN0.out.1 HN0.out.2.1)
 refine wp_region_ext (by kernel_rfl) (by kernel_rfl) ?_
 repeat (go_big_quiet_step ((go_at_call 18; exact ext_call (HAX.out _ (ext_below ⟨_, rfl⟩)))))
 refine wpQuiet_nil ?_
 intro wa hba
 replace hba := ext_below hba
 have HA1' := Lib.hid (HAW.out.below hba)
 have HU1' := Lib.hid (HU.out.trans (Buts.of_below hba))
 clear hba c0 c1 c2 lB k4 lK HAX HAW HU
 obtain ⟨c0, c1, c2, lB⟩ := HC.out wa HU1'.out
 go_wp2_with fail
 refine (HA1'.out.bget HT.out HCAP.out ⟨#[69, 110, 97, 98, 108, 101]⟩ 1 _ px_oth.2.2.2.2.1 (by decide) HA1.out).mono ?_
 rintro e wb ⟨rfl, hb⟩
 have HG1 := Lib.hid (HA1'.out.below hb)
 have HU1 := Lib.hid (HU1'.out.trans (Buts.of_below hb))
 clear hb c0 c1 c2 lB HA1' HU1'
 obtain ⟨c0, c1, c2, lB⟩ := HC.out wb HU1.out
 go_wp2_with fail
 refine (HG1.out.bset HT.out HCAP.out HFIT.out ⟨#[69, 110, 97, 98, 108, 101, 100]⟩ 3 false px_oth.2.2.2.2.2.1 (by decide)).mono ?_
 rintro e wd ⟨rfl, hbt, hrw⟩
 have HG2 := Lib.hid (HG1.out.next hbt hrw (List.length_set ..))
 have HU2 := Lib.hid (HU1.out.trans (Buts.of_but hbt (.inl rfl)))
 clear hbt hrw c0 c1 c2 lB HG1 HU1
 obtain ⟨c0, c1, c2, lB⟩ := HC.out wd HU2.out
 go_wp2
 refine bodyPost_end (results_none rfl _ _ _) rfl ⟨rfl, _, _, _, _, HG2.out.more (Nat.le_succ m), StepR.other ((OnlyAt.refl _ _ _).set (by rw [othK.c31]; decide) _) rfl⟩

set_option maxRecDepth 100000 in
set_option maxHeartbeats 4000000 in
theorem percents3_at (i : Int) (off cx g K qi qk ax n m k0 : Nat) (V : Nat → Value) (sh : Value) (nx : Int) (zs : List Int) (z0 z1 : Int) (w0 w w1 : World) (h : OtIn w0 w w1 g K qi qk ax n V sh m nx zs off 4 cx z0 z1) (hz1 : z1 ≠ 0) (hk0 : z0 = (k0 : Int) ∧ k0 < ax) :
  Calls Tryd.prog 24 #[.pointer (some ⟨K, 0, none⟩), insV i 31 (some ⟨g, off, none⟩) 4 cx] w1 (OtOut w0 w g K qi qk ax n m zs 31 off) := by
 show Calls Tryd.prog 24 #[.pointer (some ⟨K, 0, none⟩), .agg #[.int .i64 i, .int .i64 31, .slice (some ⟨g, off, none⟩) 4 cx]] w1 _
 obtain ⟨hgs, hcap, hfit, htab, hfew, ha0, ha1⟩ := h
 have HT := Lib.hid htab
 have HH := Lib.hid hgs
 have HA0 := Lib.hid ha0
 have HA1 := Lib.hid ha1
 have HCAP := Lib.hid hcap
 have HFIT := Lib.hid hfit
 have HLEN := Lib.hid hgs.len
 have HFEW := Lib.hid hfew
 have HN0 : Hid (axN z0 = (k0 : Int) ∧ axOk z0 ax = true ∧ k0 < ax) := Lib.hid (by
  obtain ⟨rfl, hk⟩ := hk0
  unfold axN axOk
  refine ⟨by omega, ?_, hk⟩
  rw [decide_eq_true (show (0 : Int) ≤ (k0 : Int) by omega), decide_eq_true (show (k0 : Int) < (ax : Int) by omega)]
  rfl)
 have hkI : (0 : Int) ≤ (k0 : Int) ∧ (k0 : Int) < (ax : Int) := by omega
 clear hk0
 have u1 : (z1 != 0) = true := by simp [hz1]
 have u1' : (z1 == 0) = false := by simp [hz1]
 clear hgs hcap hfit htab hfew ha0 ha1 hz1
 go_enter Tryd.func24, Tryd.ntmps24
 go_upto_region 1 with (fail)
 refine wp_name fun W hW => ?_
 obtain ⟨B, hB⟩ : ∃ B, B = w1.heap.size := ⟨_, rfl⟩
 have hbel : Below w1.heap.size w1 W := by rw [hW.out]; exact belowBy
 have hlB : B < W.heap.size := by rw [hW.out, hB]; simp
 have HAW := Lib.hid (HH.out.below hbel)
 have HNB : Hid (B ≠ g ∧ B ≠ K ∧ B ≠ qi ∧ ¬ (fun b => b = g ∨ b = K ∨ b = qi ∨ b = qk) B) := Lib.hid (by
  obtain ⟨h1, h2, h3, h4⟩ := HH.out.lts
  refine ⟨by omega, by omega, by omega, ?_⟩
  rintro (e | e | e | e) <;> omega)
 have HC : Hid (∀ W', Buts (fun b => b = g ∨ b = K ∨ b = qi ∨ b = qk) W W' → W'.cell? ⟨B, 0, none⟩ = some (.int .i64 i) ∧ W'.cell? ⟨B, 1, none⟩ = some (.int .i64 31) ∧ W'.cell? ⟨B, 2, none⟩ = some (.slice (some ⟨g, off, none⟩) 4 cx) ∧ B < W'.heap.size) := Lib.hid (fun W' hW' => by
  refine ⟨(hW'.cell B 0 hlB HNB.out.2.2.2).trans ?_, (hW'.cell B 1 hlB HNB.out.2.2.2).trans ?_, (hW'.cell B 2 hlB HNB.out.2.2.2).trans ?_, Nat.lt_of_lt_of_le hlB hW'.size⟩
  all_goals (rw [hW.out, hB]; go_simp))
 (try rw [← hB])
 clear hW hbel hB hlB HH
 have HU : Hid (Buts (fun b => b = g ∨ b = K ∨ b = qi ∨ b = qk) W W) := Lib.hid (Buts.of_below (Below.refl _ _))
 obtain ⟨c0, c1, c2, lB⟩ := HC.out W HU.out
 have k4 := HAW.out.k4
 have lK := HAW.out.lts.2.1
 have HAX := Lib.hid (fun W' (hW' : Below W.heap.size W W') => (HAW.out.below hW').baxis (i := i) HT.out HCAP.out z0 (k0 : Int) true othK.a31 (by decide) HA0.out HN0.out.1 HN0.out.2.1)
 refine wp_region_ext (by kernel_rfl) (by kernel_rfl) ?_
 repeat (go_big_quiet_step ((go_at_call 18; exact ext_call (HAX.out _ (ext_below ⟨_, rfl⟩)))))
 refine wpQuiet_nil ?_
 intro wa hba
 replace hba := ext_below hba
 have HA1' := Lib.hid (HAW.out.below hba)
 have HU1' := Lib.hid (HU.out.trans (Buts.of_below hba))
 clear hba c0 c1 c2 lB k4 lK HAX HAW HU
 obtain ⟨c0, c1, c2, lB⟩ := HC.out wa HU1'.out
 go_wp2_with fail
 refine (HA1'.out.bget HT.out HCAP.out ⟨#[69, 110, 97, 98, 108, 101]⟩ 1 _ px_oth.2.2.2.2.1 (by decide) HA1.out).mono ?_
 rintro e wb ⟨rfl, hb⟩
 have HG1 := Lib.hid (HA1'.out.below hb)
 have HU1 := Lib.hid (HU1'.out.trans (Buts.of_below hb))
 clear hb c0 c1 c2 lB HA1' HU1'
 obtain ⟨c0, c1, c2, lB⟩ := HC.out wb HU1.out
 go_wp2_with fail
 refine (HG1.out.bset HT.out HCAP.out HFIT.out ⟨#[69, 110, 97, 98, 108, 101, 100]⟩ 3 true px_oth.2.2.2.2.2.1 (by decide)).mono ?_
 rintro e wd ⟨rfl, hbt, hrw⟩
 have HG2 := Lib.hid (HG1.out.next hbt hrw (List.length_set ..))
 have HU2 := Lib.hid (HU1.out.trans (Buts.of_but hbt (.inl rfl)))
 clear hbt hrw c0 c1 c2 lB HG1 HU1
 obtain ⟨c0, c1, c2, lB⟩ := HC.out wd HU2.out
 go_upto_region 5 with (fail)
 obtain ⟨ps, hps⟩ : ∃ z, (zs.set (off + 3) (bif true then 1 else 0))[off + 2]? = some z := ⟨_, List.getElem?_eq_getElem (by rw [List.length_set, HLEN.out]; have := HFIT.out; omega)⟩
 have HPS := Lib.hid hps
 clear hps
 have k2 := HG2.out.k2
 obtain ⟨lg, lK, lq, lqk⟩ := HG2.out.lts
 have HIN := Lib.hid (fun W' (hW' : Below wd.heap.size wd W') => (HG2.out.below hW').bget (i := i) HT.out HCAP.out ⟨#[80, 101, 114, 99, 101, 110, 116]⟩ 2 ps px_oth.2.2.2.2.2.2.1 (by decide) HPS.out)
 refine wp_region_ext_tail 12 (by kernel_rfl) (by kernel_rfl) ?_
 simp only [List.take_succ_cons, List.take_zero, List.drop_succ_cons, List.drop_zero]
 repeat (go_big_quiet_step ((go_at_call 19; exact ext_call (HIN.out _ (ext_below ⟨_, rfl⟩)))))
 refine wpQuiet_nil ?_
 intro wh hbh
 replace hbh := ext_below hbh
 have HG3 := Lib.hid (HG2.out.below hbh)
 have HU3 := Lib.hid (HU2.out.trans (Buts.of_below hbh))
 clear hbh c0 c1 c2 lB k2 lK lg lq lqk HIN HG2 HU2
 obtain ⟨lg, lK, lq, lqk⟩ := HG3.out.lts
 obtain ⟨rv, hrv⟩ := HG3.out.i9 k0 HN0.out.2.2
 have qf := HG3.out.qf (k0 * 12 + 9)
 clear lg lqk lK
 go_wp2
 refine bodyPost_end (results_none rfl _ _ _) rfl ⟨rfl, _, _, _, _, (HG3.out.putQ k0 9 _ (.inr ⟨rfl, _, rfl⟩)).more (Nat.le_succ m), StepR.other ((OnlyAt.refl _ _ _).set (by rw [othK.c31]; decide) _) rfl⟩

end Go.Proofs.YtknnhnefbbjcdaaDoor
