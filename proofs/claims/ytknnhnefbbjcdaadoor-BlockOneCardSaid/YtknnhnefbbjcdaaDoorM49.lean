/- Merged: Layer 27: does each command block tell at most one: the walk. PRINTED by wip/tool/mkone.py Layer 27: at most one of a block's three is true, whatever is asked and told: the walk. -/
import Derived.Test.YtknnhnefbbjcdaaDoorM48
import Derived.Test.YtknnhnefbbjcdaaDoorM38
import Derived.Test.YtknnhnefbbjcdaaDoorM50
import Derived.Test.YtknnhnefbbjcdaaDoorM37
import Derived.Test.YtknnhnefbbjcdaaDoorM36
namespace Go.Proofs.YtknnhnefbbjcdaaDoor
open Go.RowKit
set_option linter.unusedVariables false
set_option linter.unusedSimpArgs false
attribute [local go_sem] ite_max ite_min vite_max vite_min ext_cell ext_frozen extS_cell extS_frozen

def BoolIs (p : Prop) (e : Ending) : Prop := ∃ b : Bool, e = .returned (.bool b) ∧ (b = true ↔ p)
structure PinsQ (kind : Int) : Prop where
 ab : pinF kind nmAborted = some (outsN kind + 3)
 er : pinF kind nmError = some (outsN kind + 4)
 dn : kind < 27 → pinF kind nmDone = some (outsN kind) ∧ pinTy kind (outsN kind) = 2
 no : ¬ kind < 27 → pinF kind nmDone = none
theorem pinsQ {kind : Int} (h : 21 ≤ kind ∧ kind ≤ 28) : PinsQ kind := by
 rcases (show kind = 21 ∨ kind = 22 ∨ kind = 23 ∨ kind = 24 ∨ kind = 25 ∨ kind = 26 ∨ kind = 27 ∨ kind = 28 by omega) with rfl | rfl | rfl | rfl | rfl | rfl | rfl | rfl
 ·exact ⟨by kernel_rfl, by kernel_rfl, fun _ => ⟨by kernel_rfl, by kernel_rfl⟩, fun h => absurd (by decide) h⟩
 ·exact ⟨by kernel_rfl, by kernel_rfl, fun _ => ⟨by kernel_rfl, by kernel_rfl⟩, fun h => absurd (by decide) h⟩
 ·exact ⟨by kernel_rfl, by kernel_rfl, fun _ => ⟨by kernel_rfl, by kernel_rfl⟩, fun h => absurd (by decide) h⟩
 ·exact ⟨by kernel_rfl, by kernel_rfl, fun _ => ⟨by kernel_rfl, by kernel_rfl⟩, fun h => absurd (by decide) h⟩
 ·exact ⟨by kernel_rfl, by kernel_rfl, fun _ => ⟨by kernel_rfl, by kernel_rfl⟩, fun h => absurd (by decide) h⟩
 ·exact ⟨by kernel_rfl, by kernel_rfl, fun _ => ⟨by kernel_rfl, by kernel_rfl⟩, fun h => absurd (by decide) h⟩
 ·exact ⟨by kernel_rfl, by kernel_rfl, fun h => absurd h (by decide), fun _ => by kernel_rfl⟩
 ·exact ⟨by kernel_rfl, by kernel_rfl, fun h => absurd h (by decide), fun _ => by kernel_rfl⟩
theorem pinK_some (a : Nat) (ty : Int) (k : Nat) : pinK a ty (some k) = .tuple #[.int .i64 ((a + k : Nat) : Int), .agg #[.string (pinNm ty k), .int .i64 (pinTy ty k), .bool (pinIn ty k)], .bool true] := by
 unfold pinK pinA
 rw [Int.natCast_add]
theorem blksT_mem {vs : List VarS} : ∀ {i : Nat} {b : BlK}, i ≤ vs.length → b ∈ blksT vs i → ∃ v, b.num < i ∧ vs[b.num]? = some v ∧ motB v.type = true ∧ b.kind = v.type ∧ b.off = sumN (vs.take b.num)
 | 0, b, _, h => by cases h
 | i + 1, b, hi, h => by
  have hx : vs[i]? = some vs[i] := List.getElem?_eq_getElem (by omega)
  cases hm : motB (vs[i]).type
  ·rw [blksT_no hx hm] at h
   obtain ⟨v, h1, h2⟩ := blksT_mem (by omega) h
   exact ⟨v, by omega, h2⟩
  ·rw [blksT_yes hx hm] at h
   rcases List.mem_append.1 h with h | h
   ·obtain ⟨v, h1, h2⟩ := blksT_mem (by omega) h
    exact ⟨v, by omega, h2⟩
   ·rw [List.mem_singleton.1 h]
    exact ⟨vs[i], by simp, hx, hm, rfl, rfl⟩
theorem mem_blksT {vs : List VarS} {j : Nat} {v : VarS} (hv : vs[j]? = some v) (hm : motB v.type = true) : ∀ i, j < i → i ≤ vs.length → ⟨j, v.type, sumN (vs.take j)⟩ ∈ blksT vs i
 | 0, h, _ => by omega
 | i + 1, h, hi => by
  have hx : vs[i]? = some vs[i] := List.getElem?_eq_getElem (by omega)
  by_cases he : j = i
  ·subst he
   rw [blksT_yes hv hm]
   exact List.mem_append_right _ (List.mem_singleton.2 rfl)
  ·have ih := mem_blksT hv hm i (by omega) (by omega)
   cases hm' : motB (vs[i]).type
   ·rw [blksT_no hx hm']
    exact ih
   ·rw [blksT_yes hx hm']
    exact List.mem_append_left _ ih
def OneTo (vs : List VarS) (zs : List Int) (i : Nat) : Prop := ∀ j v, j < i → vs[j]? = some v → cmdB v.type = true → OneAt v.type (sumN (vs.take j)) zs
theorem OneTo.all {vs : List VarS} {zs : List Int} (h : OneTo vs zs vs.length) : OneAll (blks vs) zs := by
 intro b hb hc
 obtain ⟨v, h1, h2, h3, h4, h5⟩ := blksT_mem (Nat.le_refl _) hb
 rw [h4] at hc ⊢
 rw [h5]
 exact h b.num v h1 h2 hc
theorem OneAll.at {vs : List VarS} {zs : List Int} (h : OneAll (blks vs) zs) {j : Nat} {v : VarS} (hv : vs[j]? = some v) (hc : cmdB v.type = true) : OneAt v.type (sumN (vs.take j)) zs := by
 have hm : motB v.type = true := by
  unfold cmdB at hc
  unfold motB
  simp only [Bool.and_eq_true, decide_eq_true_eq] at hc ⊢
  omega
 exact h ⟨j, v.type, sumN (vs.take j)⟩ (mem_blksT hv hm vs.length (List.getElem?_eq_some_iff.1 hv).1 (Nat.le_refl _)) hc
theorem OneTo.more {vs : List VarS} {zs : List Int} {i : Nat} {v : VarS} (h : OneTo vs zs i) (hv : vs[i]? = some v) (h1 : cmdB v.type = true → OneAt v.type (sumN (vs.take i)) zs) : OneTo vs zs (i + 1) := by
 intro j x hj hx hc
 by_cases he : j = i
 ·subst he
  rw [hv] at hx
  cases hx
  exact h1 hc
 ·exact h j x (by omega) hx hc
theorem OneAt.of {kind : Int} {off : Nat} {zs : List Int} {dd : Bool} {a e i : Int} (hd : dd = (decide (kind < 27) && decide (zs[off + outsN kind]?.getD 0 ≠ 0))) (ha : zs[off + (outsN kind + 3)]? = some a) (he : zs[off + (outsN kind + 4)]? = some e) (hi : zs[off + (outsN kind + 6)]? = some i) :
  OneAt kind off zs ↔ (dd = true → a = 0 ∧ e = 0) ∧ (a ≠ 0 → e = 0) ∧ (dd = true ∨ a ≠ 0 ∨ e ≠ 0 → i = 0) := by
 unfold OneAt
 rw [ha, he, hi]
 simp only [Option.getD_some]
 have hdd : dd = true ↔ (kind < 27 ∧ zs[off + outsN kind]?.getD 0 ≠ 0) := by
  rw [hd]
  simp only [Bool.and_eq_true, decide_eq_true_eq]
 rw [hdd]
 exact ⟨fun ⟨h1, h2, h3⟩ => ⟨fun h => h1 h.1 h.2, h2, h3⟩, fun ⟨h1, h2, h3⟩ => ⟨fun h h' => h1 ⟨h, h'⟩, h2, h3⟩⟩
theorem var_cells {vs : List VarS} (hmot : ∀ v ∈ vs, v.arr = true → v.type ≤ 2) {i : Nat} {v : VarS} (hv : vs[i]? = some v) (hc : 21 ≤ v.type ∧ v.type ≤ 28) : sumN (vs.take i) + (outsN v.type + 7) ≤ sumN vs := by
 have hna : ¬ v.arr = true := fun ha => by
  have := hmot v (List.mem_of_getElem? hv) ha
  omega
 have h1 := sumN_take hv
 have h2 := sumN_mono (l := vs) (i := i + 1)
 have h3 : cellsN v = rcount v.type := by
  unfold cellsN
  rw [if_neg hna, if_pos (by omega)]
 have h4 := (cmdK hc).cnt
 omega

set_option maxRecDepth 100000 in
set_option maxHeartbeats 8000000 in
theorem one_any (p : Prg) (cs : List Value) (zs : List Int) (A : Option Addr) (n c : Nat) (w : World)
  (h : PrgAt w p cs) (hfit : ∀ v ∈ p.vars, ArrOk v) (hmot : ∀ v ∈ p.vars, v.arr = true → v.type ≤ 2) (hdiff : DiffN p.vars) (hn64 : p.vars.length ≤ 64) (ht : Blanks w) (hr : RowN w A zs c) (hl : zs.length = n) (hs : n = sumN p.vars) :
  Calls Tryd.prog 8 #[.agg cs.toArray, .slice A n c] w fun e w' => BoolIs (OneAll (blks p.vars) zs) e ∧ Below w.heap.size w w' := by
 obtain ⟨Av, kv, Ab, kb, rfl, hv, hbd⟩ := h
 have hkv1 := hv.1
 have hkv2 := hv.2.1
 have hc1 := hr.1
 have hc2 := hr.2.1
 rw [hl] at hc1
 have HRV := Lib.hid hv
 have HRN := Lib.hid hr
 have HL := Lib.hid hl
 have HMOT := Lib.hid hmot
 have HSN := Lib.hid hs
 have HPIN : Hid (∀ W, Below w.heap.size w W → ∀ i v, p.vars[i]? = some v → 2 < v.type → ∀ fd, Calls Tryd.prog 15 #[.agg #[.string p.name, .slice Av p.vars.length kv, .slice Ab p.body.length kb], .string v.name, .string fd] W fun e w' => e = .returned (pinK (sumN (p.vars.take i)) v.type (pinF v.type fd)) ∧ Below W.heap.size W w') := Lib.hid (fun W hW i v hi h2 fd => by
  have := laypin_any p _ v.name fd W ⟨Av, kv, Ab, kb, rfl, hv.below hW, hbd.below hW⟩ hfit hn64 (ht.on hW)
  rw [hdiff.own hi, show pinO fd (some (sumN (p.vars.take i), v)) = pinK (sumN (p.vars.take i)) v.type (pinF v.type fd) from if_pos h2] at this
  exact this)
 obtain ⟨m, hm⟩ : ∃ m, p.vars.length = m := ⟨_, rfl⟩
 obtain ⟨nb, hnb⟩ : ∃ m, p.body.length = m := ⟨_, rfl⟩
 have HM := Lib.hid hm
 rw [hm] at hkv1 hn64
 rw [hm, hnb] at HPIN
 show Calls Tryd.prog 8 #[.agg #[.string p.name, .slice Av p.vars.length kv, .slice Ab p.body.length kb], .slice A n c] w _
 rw [hm, hnb]
 clear hv hbd hfit hmot hdiff ht hr hl hs hm hnb
 go_enter Tryd.func8, Tryd.ntmps8
 go_upto_region 1 with (fail)
 refine wp_name fun W hW => ?_
 obtain ⟨B, hB⟩ : ∃ B, B = w.heap.size := ⟨_, rfl⟩
 have HC : Hid (∀ W', Below W.heap.size W W' → W'.cell? ⟨B, 0, none⟩ = some (.string p.name) ∧ W'.cell? ⟨B, 1, none⟩ = some (.slice Av m kv) ∧ W'.cell? ⟨B, 2, none⟩ = some (.slice Ab nb kb) ∧ B < W'.heap.size) := Lib.hid (fun W' hW' => by
  have hl : B < W.heap.size := by rw [hW.out, hB]; simp
  exact ⟨(hW'.cell (p := ⟨B, 0, none⟩) hl).trans (by rw [hW.out, hB]; go_simp), (hW'.cell (p := ⟨B, 1, none⟩) hl).trans (by rw [hW.out, hB]; go_simp), (hW'.cell (p := ⟨B, 2, none⟩) hl).trans (by rw [hW.out, hB]; go_simp), Nat.lt_of_lt_of_le hl hW'.size⟩)
 have hbel : Below w.heap.size w W := by rw [hW.out]; exact belowBy
 have HB := Lib.hid hbel
 (try rw [← hB])
 clear hW hbel hB
 go_upto_region 2 with (fail)
 go_loopw [5] (fun u wr => ∃ (i : Nat), i ≤ m ∧ u = .int .i64 i ∧ Hid (OneTo p.vars zs i) ∧ Hid (Below W.heap.size W wr)) (fun u _ => m - (intOf u).toNat)
 case atStart => exact ⟨0, by omega, rfl, Lib.hid (fun j v hj => by omega), Lib.hid (Below.refl _ _)⟩
 case round =>
  obtain ⟨i, hi, rfl, HTO, HS⟩ := hrel
  have HBr := Lib.hid (HB.out.trans (HS.out.mono HB.out.size))
  obtain ⟨c0, c1', c2, lB⟩ := HC.out wr HS.out
  by_cases hlt : i < m
  ·have hi0 : (0 : Int) ≤ (i : Int) ∧ (i : Int) < (m : Int) := by omega
   obtain ⟨b, off, v, rfl, hbl, hx, hrg⟩ := RowV.at8 (HRV.out.below HBr.out) (i := i) (by rw [HM.out]; exact hlt)
   have HX := Lib.hid hx
   have x0 : wr.cell? ⟨b, off + i * 8, none⟩ = some (.string v.name) := hrg 0 _ rfl
   have x1 : wr.cell? ⟨b, off + i * 8 + 1, none⟩ = some (.int .i64 v.type) := hrg 1 _ rfl
   have HXB : Hid (∀ W', Below wr.heap.size wr W' → W'.cell? ⟨b, off + i * 8, none⟩ = some (.string v.name) ∧ b < W'.heap.size) := Lib.hid (fun W' hW' => ⟨(hW'.cell (p := ⟨b, off + i * 8, none⟩) hbl).trans x0, Nat.lt_of_lt_of_le hbl hW'.size⟩)
   obtain ⟨kd, hkd⟩ : ∃ k, v.type = k := ⟨_, rfl⟩
   have HKD := Lib.hid hkd
   rw [hkd] at x1
   obtain ⟨vn, hvn⟩ : ∃ s, v.name = s := ⟨_, rfl⟩
   rw [hvn] at x0 HXB
   have HVN := Lib.hid hvn
   clear hx hrg hkd hvn
   by_cases hlo : kd < 21
   ·have HTN : Hid (OneTo p.vars zs (i + 1)) := Lib.hid (HTO.out.more HX.out (fun hc => by
     rw [HKD.out] at hc
     unfold cmdB at hc
     simp only [Bool.and_eq_true, decide_eq_true_eq] at hc
     omega))
    go_wp2
    go_roundw
    case rel => exact ⟨i + 1, by omega, by go_num, HTN, HS⟩
    case measure => simp [intOf]; omega
   by_cases hhi : 28 < kd
   ·have HTN : Hid (OneTo p.vars zs (i + 1)) := Lib.hid (HTO.out.more HX.out (fun hc => by
     rw [HKD.out] at hc
     unfold cmdB at hc
     simp only [Bool.and_eq_true, decide_eq_true_eq] at hc
     omega))
    go_wp2
    go_roundw
    case rel => exact ⟨i + 1, by omega, by go_num, HTN, HS⟩
    case measure => simp [intOf]; omega
   have hkr : 21 ≤ kd ∧ kd ≤ 28 := by omega
   have HKR := Lib.hid hkr
   have hPK := pinsQ hkr
   have hCK := cmdK hkr
   obtain ⟨a, ha⟩ : ∃ a, sumN (p.vars.take i) = a := ⟨_, rfl⟩
   obtain ⟨O, hO⟩ : ∃ O, outsN kd = O := ⟨_, rfl⟩
   have haO : a + (O + 7) ≤ n := by
    have := var_cells HMOT.out HX.out (by rw [HKD.out]; exact hkr)
    rw [HKD.out, ha, hO, ← HSN.out] at this
    exact this
   have HPW : Hid (∀ fd W', Below wr.heap.size wr W' → Calls Tryd.prog 15 #[.agg #[.string p.name, .slice (some ⟨b, off, none⟩) m kv, .slice Ab nb kb], .string vn, .string fd] W' fun e w' => e = .returned (pinK a kd (pinF kd fd)) ∧ Below W'.heap.size W' w') := Lib.hid (fun fd W' hW' => by
    have := HPIN.out W' (HBr.out.trans (hW'.mono HBr.out.size)) i v HX.out (by rw [HKD.out]; omega) fd
    rw [HKD.out, HVN.out, ha] at this
    exact this)
   have HPA : Hid (∃ s t ii, pinK a kd (pinF kd nmAborted) = .tuple #[.int .i64 ((a + (O + 3) : Nat) : Int), .agg #[.string s, .int .i64 t, .bool ii], .bool true]) := Lib.hid (by rw [hPK.ab, hO]; exact ⟨_, _, _, pinK_some _ _ _⟩)
   have HPE : Hid (∃ s t ii, pinK a kd (pinF kd nmError) = .tuple #[.int .i64 ((a + (O + 4) : Nat) : Int), .agg #[.string s, .int .i64 t, .bool ii], .bool true]) := Lib.hid (by rw [hPK.er, hO]; exact ⟨_, _, _, pinK_some _ _ _⟩)
   have HPD : Hid (∃ (d : Nat) (s : ByteArray) (t : Int) (ii okv : Bool), pinK a kd (pinF kd nmDone) = .tuple #[.int .i64 (d : Int), .agg #[.string s, .int .i64 t, .bool ii], .bool okv] ∧ ((kd < 27 ∧ d = a + O ∧ t = 2 ∧ okv = true) ∨ (¬ kd < 27 ∧ okv = false))) := Lib.hid (by
    by_cases h27 : kd < 27
    ·obtain ⟨h1, h2⟩ := hPK.dn h27
     rw [h1, hO]
     refine ⟨a + O, pinNm kd O, pinTy kd O, pinIn kd O, true, pinK_some _ _ _, .inl ⟨h27, rfl, by rw [← hO]; exact h2, rfl⟩⟩
    ·rw [hPK.no h27]
     exact ⟨0, _, _, _, false, rfl, .inr ⟨h27, rfl⟩⟩)
   obtain ⟨dz, hdz⟩ : ∃ z, zs[a + O]? = some z := ⟨_, List.getElem?_eq_getElem (by rw [HL.out]; omega)⟩
   obtain ⟨az, haz⟩ : ∃ z, zs[a + (O + 3)]? = some z := ⟨_, List.getElem?_eq_getElem (by rw [HL.out]; omega)⟩
   obtain ⟨ez, hez⟩ : ∃ z, zs[a + (O + 4)]? = some z := ⟨_, List.getElem?_eq_getElem (by rw [HL.out]; omega)⟩
   obtain ⟨iz, hiz⟩ : ∃ z, zs[a + (O + 6)]? = some z := ⟨_, List.getElem?_eq_getElem (by rw [HL.out]; omega)⟩
   obtain ⟨dd, hdd⟩ : ∃ d : Bool, d = (decide (kd < 27) && decide (dz ≠ 0)) := ⟨_, rfl⟩
   have HIFF : Hid ((OneTo p.vars zs (i + 1) ↔ ((dd = true → az = 0 ∧ ez = 0) ∧ (az ≠ 0 → ez = 0) ∧ (dd = true ∨ az ≠ 0 ∨ ez ≠ 0 → iz = 0))) ∧ (OneAll (blks p.vars) zs → ((dd = true → az = 0 ∧ ez = 0) ∧ (az ≠ 0 → ez = 0) ∧ (dd = true ∨ az ≠ 0 ∨ ez ≠ 0 → iz = 0)))) := Lib.hid (by
    have hof := OneAt.of (kind := v.type) (off := a) (zs := zs) (dd := dd) (by rw [HKD.out, hO, hdz, Option.getD_some]; exact hdd) (by rw [HKD.out, hO]; exact haz) (by rw [HKD.out, hO]; exact hez) (by rw [HKD.out, hO]; exact hiz)
    rw [← ha] at hof
    have hcb : cmdB v.type = true := by rw [HKD.out]; unfold cmdB; simp only [Bool.and_eq_true, decide_eq_true_eq]; exact hkr
    exact ⟨⟨fun h => hof.1 (h i v (Nat.lt_succ_self i) HX.out hcb), fun h => HTO.out.more HX.out fun _ => hof.2 h⟩, fun h => hof.1 (h.at HX.out hcb)⟩)
   have HDD := Lib.hid hdd
   have HDZ := Lib.hid hdz
   have HAZ := Lib.hid haz
   have HEZ := Lib.hid hez
   have HIZ := Lib.hid hiz
   clear hPK hCK ha hO hdz haz hez hiz hdd hkr
   go_upto_region 7 with (fail)
   clear hlo hhi
   obtain ⟨bz, oz, hAz, hbz, hcz⟩ := (HRN.out.below HBr.out).2.2 _ _ HDZ.out
   subst hAz
   clear hbz hcz
   go_cut [8, 9, 10] from 36 to 47 (fun r8 r9 r10 wx => ∃ (d q : Nat) (t : Int) (okv : Bool), r8 = .int .i64 (d : Int) ∧ r9 = .pointer (some ⟨q, 0, none⟩) ∧ r10 = .bool okv ∧ ((kd < 27 ∧ d = a + O ∧ t = 2 ∧ okv = true) ∨ (¬ kd < 27 ∧ okv = false)) ∧ Hid (wx.cell? ⟨q, 1, none⟩ = some (.int .i64 t) ∧ q < wx.heap.size) ∧ Hid (Below wr.heap.size wr wx))
   case first =>
    obtain ⟨d, s, t, ii, okv, hpd, hcase⟩ := HPD.out
    have HCASE := Lib.hid hcase
    have HP1 : Hid (∀ W', Below wr.heap.size wr W' → Calls Tryd.prog 15 #[.agg #[.string p.name, .slice (some ⟨b, off, none⟩) m kv, .slice Ab nb kb], .string vn, .string ⟨#[68, 111, 110, 101]⟩] W' fun e w' => e = .returned (.tuple #[.int .i64 (d : Int), .agg #[.string s, .int .i64 t, .bool ii], .bool okv]) ∧ Below W'.heap.size W' w') := Lib.hid (fun W' hW' => by
     have := HPW.out nmDone W' hW'
     rw [hpd] at this
     exact this)
    clear hpd hcase
    refine wp_region_wild 14 11 ([{ i := 11, d := 47, R := isVal (.bool okv), N := (fun _ => []) }, { i := 12, d := 9, R := isVar (.cells #[.string ⟨#[]⟩, .int .i64 0, .bool false] 57), N := newB }] : List Wd) [false, false, false, false, false, false, false, false, false, false, false, true, true, false] rfl (by kernel_rfl) (by kernel_rfl) (fun _ _ _ _ _ h => h) (by kernel_rfl) ?_ ?_
    ·intro x hx v w1 w2 hR hb
     simp only [List.mem_cons, List.not_mem_nil, or_false] at hx
     rcases hx with rfl | rfl
     all_goals (dsimp only at hR ⊢; exact hR.below hb)
    apply Exists.intro
    refine ⟨fun S hS hne => ?_, ?_, ?_, ?_⟩
    ·simp only [List.take_succ_cons, List.take_zero, List.map_cons, List.map_nil]
     delta CS
     repeat (first | with_reducible refine mask_skip ?_ | ((with_reducible refine mask_keep ?_); go_big_quiet_step ((go_at_call 15; exact extS_call hS (HP1.out _ (extS_below _))))))
     exact mask_nil rfl
    ·skip
     intro x hx he
     simp only [List.mem_cons, List.not_mem_nil, or_false] at hx
     rcases hx with rfl | rfl
     all_goals (dsimp only at he; first | (exact absurd he (by decide)) | clear he)
     intro o ho
     simp only [List.getElem?_cons_succ, List.getElem?_cons_zero, Option.some.injEq] at ho
     subst ho
     intro vs w' hbw hdeps
     simp only [putsF, List.foldl_cons, List.foldl_nil]
     simp only [List.forall_mem_cons, List.not_mem_nil, false_implies, implies_true, and_true] at hdeps
     obtain ⟨dp0, dp1⟩ := hdeps
     clear dp0 dp1
     refine ⟨.bool okv, fun u => ?_⟩
     go_simp
    ·skip
     simp only [List.forall_mem_cons, List.not_mem_nil, false_implies, implies_true, and_true]
     refine ⟨?_, ?_⟩
     all_goals
      intro o ho
      simp only [List.getElem?_cons_succ, List.getElem?_cons_zero, Option.some.injEq] at ho
      subst ho
      intro vs w' hbw hdeps
      simp only [putsF, List.foldl_cons, List.foldl_nil]
      refine ⟨by first | rfl | go_simp, ?_⟩
      first | with_reducible refine wild_plain ?_ | with_reducible refine wild_link ?_
      clear hdeps
      go_simp
     ·exact wildUpon_value ⟨⟨rfl, trivial⟩, Below.refl _ _, fun b hb => by cases hb⟩
     ·exact wild_var
    ·skip
     intro vs w' hbw hr hap hlk
     simp only [List.forall_mem_cons, List.not_mem_nil, false_implies, implies_true, and_true] at hr hap
     obtain ⟨hh11, ⟨hh12, n12⟩⟩ := hr
     obtain ⟨e11, t11⟩ := hh11
     obtain ⟨q, e12, hobj⟩ := hh12
     rw [e12] at n12
     clear hlk
     try simp only [e11, e12] at hap
     try simp only [newB_ptr, newB_row, newB_win, newB_win2, List.mem_cons, forall_eq_or_imp, or_false, List.mem_singleton, forall_eq, List.not_mem_nil, false_implies, implies_true, not_false_eq_true, and_true, true_and] at n12 hap
     try simp only [ne_eq, not_true_eq_false, false_implies, true_and, and_true, Nat.reduceEqDiff, not_false_eq_true, forall_const] at hap
     simp only [putsF, List.foldl_cons, List.foldl_nil, e11, e12, List.drop_succ_cons, List.drop_zero]
     clear e11 e12
     clear t11
     have HBW := Lib.hid hbw
     have y0 := heap_cell 0 _ hobj rfl
     have y1 := heap_cell 1 _ hobj rfl
     have y2 := heap_cell 2 _ hobj rfl
     have f0 := heap_free 0 hobj
     have f1 := heap_free 1 hobj
     have f2 := heap_free 2 hobj
     have lq : q < w'.heap.size := (Array.getElem?_eq_some_iff.1 hobj).1
     have hqr : wr.heap.size ≤ q := n12.1
     clear hobj n12 hbw c0 c1' c2 lB x0
     go_wp2_with fail
     obtain ⟨W5, hW5'⟩ : ∃ x, x = (((w'.setCell ⟨q, 0, none⟩ (.string s)).setCell ⟨q, 1, none⟩ (.int .i64 t)).setCell ⟨q, 2, none⟩ (.bool ii)) := ⟨_, rfl⟩
     rw [← hW5']
     have hW5 := Lib.hid hW5'
     clear hW5'
     have hbW5 : Below wr.heap.size wr W5 := by
      rw [hW5.out]
      exact HBW.out.trans (But.below ((((But.refl q _).set 0 _).set 1 _).set 2 _) _ hqr HBW.out.size)
     have z1 : W5.cell? ⟨q, 1, none⟩ = some (.int .i64 t) := by rw [hW5.out]; go_simp
     have lq5 : q < W5.heap.size := by rw [hW5.out]; simpa [World.setCell] using lq
     have HZ5 := Lib.hid (And.intro z1 lq5)
     have HS5r := Lib.hid hbW5
     clear hW5 y0 y1 y2 f0 f1 f2 lq hqr HBW hbW5 z1 lq5
     (try go_wp2_with fail)
     go_meet
     case rel => exact ⟨d, q, t, okv, rfl, rfl, rfl, HCASE.out, HZ5, HS5r⟩
   case rest =>
    obtain ⟨d, q, t, okv, rfl, rfl, rfl, hcase, HZ5, HS5r⟩ := hcut
    have HCASE := Lib.hid hcase
    have HS5 := Lib.hid (HS.out.trans (HS5r.out.mono HS.out.size))
    have HBr5 := Lib.hid (HBr.out.trans (HS5r.out.mono HBr.out.size))
    clear c0 c1' c2 lB x0 hcase
    go_upto_region 8 with (fail)
    go_cut [8, 9, 10, 60] from 48 to 60 (fun r8 r9 r10 r60 wx => r60 = .bool dd ∧ wx = wc)
    case first =>
     obtain ⟨z1, lq5⟩ := HZ5.out
     obtain ⟨b1, o1, h1, hbz, hcz⟩ := (HRN.out.below HBr5.out).2.2 _ _ HDZ.out
     cases h1
     rcases HCASE.out with ⟨h27, hd, ht2, hok⟩ | ⟨h27, hok⟩
     ·subst hd ht2 hok
      have H27 := Lib.hid h27
      have hdI : (0 : Int) ≤ ((a + O : Nat) : Int) ∧ ((a + O : Nat) : Int) < (n : Int) := by omega
      obtain ⟨dn, hdn⟩ : ∃ x : Nat, x = a + O := ⟨_, rfl⟩
      rw [← hdn] at hcz hdI ⊢
      clear h27 hdn
      by_cases hz : dz = 0
      ·have hdd : dd = false := by rw [HDD.out]; simp [hz]
       have uz : (dz != 0) = false := by simp [hz]
       have HDF := Lib.hid hdd
       clear hz hdd
       go_wp2
       go_meet
       case rel => exact ⟨by rw [HDF.out], rfl⟩
      ·have hdd : dd = true := by rw [HDD.out]; simp [hz, H27.out]
       have uz : (dz != 0) = true := by simp [hz]
       have HDF := Lib.hid hdd
       clear hz hdd
       go_wp2
       go_meet
       case rel => exact ⟨by rw [HDF.out], rfl⟩
     ·subst hok
      have hdd : dd = false := by rw [HDD.out]; simp [h27]
      have HDF := Lib.hid hdd
      clear h27 hdd
      go_wp2
      go_meet
      case rel => exact ⟨by rw [HDF.out], rfl⟩
    case rest =>
     obtain ⟨rfl, rfl⟩ := hcut
     clear HZ5 HCASE
     cases dd
     ·go_upto_region 10 with (fail)
      obtain ⟨sA, tA, iA, hpa⟩ := HPA.out
      have HP2 : Hid (∀ W', Below wc.heap.size wc W' → Calls Tryd.prog 15 #[.agg #[.string p.name, .slice (some ⟨b, off, none⟩) m kv, .slice Ab nb kb], .string vn, .string ⟨#[67, 111, 109, 109, 97, 110, 100, 65, 98, 111, 114, 116, 101, 100]⟩] W' fun e w' => e = .returned (.tuple #[.int .i64 ((a + (O + 3) : Nat) : Int), .agg #[.string sA, .int .i64 tA, .bool iA], .bool true]) ∧ Below W'.heap.size W' w') := Lib.hid (fun W' hW' => by
       have := HPW.out nmAborted W' (HS5r.out.trans (hW'.mono HS5r.out.size))
       rw [hpa] at this
       exact this)
      clear hpa
      obtain ⟨c0, c1', c2, lB⟩ := HC.out wc HS5.out
      obtain ⟨x0, lb5⟩ := HXB.out wc HS5r.out
      obtain ⟨na, hna⟩ : ∃ x : Nat, x = a + (O + 3) := ⟨_, rfl⟩
      have HNA := Lib.hid hna
      rw [← hna] at HP2
      clear hna
      refine wp_region_wild 14 11 ([{ i := 11, d := 74, R := isVal (.bool true), N := (fun _ => []) }, { i := 12, d := 12, R := isVar (.cells #[.string ⟨#[]⟩, .int .i64 0, .bool false] 57), N := newB }] : List Wd) [false, false, false, false, false, false, false, false, false, false, false, true, true, false] rfl (by kernel_rfl) (by kernel_rfl) (fun _ _ _ _ _ h => h) (by kernel_rfl) ?_ ?_
      ·intro x hx v w1 w2 hR hb
       simp only [List.mem_cons, List.not_mem_nil, or_false] at hx
       rcases hx with rfl | rfl
       all_goals (dsimp only at hR ⊢; exact hR.below hb)
      apply Exists.intro
      refine ⟨fun S hS hne => ?_, ?_, ?_, ?_⟩
      ·simp only [List.take_succ_cons, List.take_zero, List.map_cons, List.map_nil]
       delta CS
       repeat (first | with_reducible refine mask_skip ?_ | ((with_reducible refine mask_keep ?_); go_big_quiet_step ((go_at_call 15; exact extS_call hS (HP2.out _ (extS_below _))))))
       exact mask_nil rfl
      ·skip
       intro x hx he
       simp only [List.mem_cons, List.not_mem_nil, or_false] at hx
       rcases hx with rfl | rfl
       all_goals (dsimp only at he; first | (exact absurd he (by decide)) | clear he)
       intro o ho
       simp only [List.getElem?_cons_succ, List.getElem?_cons_zero, Option.some.injEq] at ho
       subst ho
       intro vs w' hbw hdeps
       simp only [putsF, List.foldl_cons, List.foldl_nil]
       simp only [List.forall_mem_cons, List.not_mem_nil, false_implies, implies_true, and_true] at hdeps
       obtain ⟨dp0, dp1⟩ := hdeps
       clear dp0 dp1
       refine ⟨.bool true, fun u => ?_⟩
       go_simp
      ·skip
       simp only [List.forall_mem_cons, List.not_mem_nil, false_implies, implies_true, and_true]
       refine ⟨?_, ?_⟩
       all_goals
        intro o ho
        simp only [List.getElem?_cons_succ, List.getElem?_cons_zero, Option.some.injEq] at ho
        subst ho
        intro vs w' hbw hdeps
        simp only [putsF, List.foldl_cons, List.foldl_nil]
        refine ⟨by first | rfl | go_simp, ?_⟩
        first | with_reducible refine wild_plain ?_ | with_reducible refine wild_link ?_
        clear hdeps
        go_simp
       ·exact wildUpon_value ⟨⟨rfl, trivial⟩, Below.refl _ _, fun b hb => by cases hb⟩
       ·exact wild_var
      ·skip
       intro vs w' hbw hr hap hlk
       simp only [List.forall_mem_cons, List.not_mem_nil, false_implies, implies_true, and_true] at hr hap
       obtain ⟨hh11, ⟨hh12, n12⟩⟩ := hr
       obtain ⟨e11, t11⟩ := hh11
       obtain ⟨q2, e12, hobj⟩ := hh12
       rw [e12] at n12
       clear hlk
       try simp only [e11, e12] at hap
       try simp only [newB_ptr, newB_row, newB_win, newB_win2, List.mem_cons, forall_eq_or_imp, or_false, List.mem_singleton, forall_eq, List.not_mem_nil, false_implies, implies_true, not_false_eq_true, and_true, true_and] at n12 hap
       try simp only [ne_eq, not_true_eq_false, false_implies, true_and, and_true, Nat.reduceEqDiff, not_false_eq_true, forall_const] at hap
       simp only [putsF, List.foldl_cons, List.foldl_nil, e11, e12, List.drop_succ_cons, List.drop_zero]
       clear e11 e12
       clear t11
       have HBW := Lib.hid hbw
       have y0 := heap_cell 0 _ hobj rfl
       have y1 := heap_cell 1 _ hobj rfl
       have y2 := heap_cell 2 _ hobj rfl
       have f0 := heap_free 0 hobj
       have f1 := heap_free 1 hobj
       have f2 := heap_free 2 hobj
       have lq : q2 < w'.heap.size := (Array.getElem?_eq_some_iff.1 hobj).1
       have hqr : wc.heap.size ≤ q2 := n12.1
       clear hobj n12 hbw c0 c1' c2 lB x0
       go_upto_region 11 with (fail)
       refine wp_name fun W6 hW6 => ?_
       have hbW6 : Below wc.heap.size wc W6 := by
        rw [hW6.out]
        exact HBW.out.trans (But.below ((((But.refl q2 _).set 0 _).set 1 _).set 2 _) _ hqr HBW.out.size)
       have HS6 := Lib.hid (HS5.out.trans (hbW6.mono HS5.out.size))
       have HBr6 := Lib.hid (HBr5.out.trans (hbW6.mono HBr5.out.size))
       have HS6r := Lib.hid (HS5r.out.trans (hbW6.mono HS5r.out.size))
       clear hW6 y0 y1 y2 f0 f1 f2 lq hqr HBW hbW6 HS5 HBr5 HP2 lb5
       obtain ⟨sE, tE, iE, hpe⟩ := HPE.out
       have HP3 : Hid (∀ W', Below W6.heap.size W6 W' → Calls Tryd.prog 15 #[.agg #[.string p.name, .slice (some ⟨b, off, none⟩) m kv, .slice Ab nb kb], .string vn, .string ⟨#[69, 114, 114, 111, 114]⟩] W' fun e w' => e = .returned (.tuple #[.int .i64 ((a + (O + 4) : Nat) : Int), .agg #[.string sE, .int .i64 tE, .bool iE], .bool true]) ∧ Below W'.heap.size W' w') := Lib.hid (fun W' hW' => by
        have := HPW.out nmError W' (HS6r.out.trans (hW'.mono HS6r.out.size))
        rw [hpe] at this
        exact this)
       clear hpe
       obtain ⟨c0, c1', c2, lB⟩ := HC.out W6 HS6.out
       obtain ⟨x0, lb6⟩ := HXB.out W6 HS6r.out
       obtain ⟨ne, hne⟩ : ∃ x : Nat, x = a + (O + 4) := ⟨_, rfl⟩
       have HNE := Lib.hid hne
       rw [← hne] at HP3
       clear hne
       refine wp_region_wild 14 11 ([{ i := 11, d := 86, R := isVal (.bool true), N := (fun _ => []) }, { i := 12, d := 15, R := isVar (.cells #[.string ⟨#[]⟩, .int .i64 0, .bool false] 57), N := newB }] : List Wd) [false, false, false, false, false, false, false, false, false, false, false, true, true, false] rfl (by kernel_rfl) (by kernel_rfl) (fun _ _ _ _ _ h => h) (by kernel_rfl) ?_ ?_
       ·intro x hx v w1 w2 hR hb
        simp only [List.mem_cons, List.not_mem_nil, or_false] at hx
        rcases hx with rfl | rfl
        all_goals (dsimp only at hR ⊢; exact hR.below hb)
       apply Exists.intro
       refine ⟨fun S hS hne => ?_, ?_, ?_, ?_⟩
       ·simp only [List.take_succ_cons, List.take_zero, List.map_cons, List.map_nil]
        delta CS
        repeat (first | with_reducible refine mask_skip ?_ | ((with_reducible refine mask_keep ?_); go_big_quiet_step ((go_at_call 15; exact extS_call hS (HP3.out _ (extS_below _))))))
        exact mask_nil rfl
       ·skip
        intro x hx he
        simp only [List.mem_cons, List.not_mem_nil, or_false] at hx
        rcases hx with rfl | rfl
        all_goals (dsimp only at he; first | (exact absurd he (by decide)) | clear he)
        intro o ho
        simp only [List.getElem?_cons_succ, List.getElem?_cons_zero, Option.some.injEq] at ho
        subst ho
        intro vs w' hbw hdeps
        simp only [putsF, List.foldl_cons, List.foldl_nil]
        simp only [List.forall_mem_cons, List.not_mem_nil, false_implies, implies_true, and_true] at hdeps
        obtain ⟨dp0, dp1⟩ := hdeps
        clear dp0 dp1
        refine ⟨.bool true, fun u => ?_⟩
        go_simp
       ·skip
        simp only [List.forall_mem_cons, List.not_mem_nil, false_implies, implies_true, and_true]
        refine ⟨?_, ?_⟩
        all_goals
         intro o ho
         simp only [List.getElem?_cons_succ, List.getElem?_cons_zero, Option.some.injEq] at ho
         subst ho
         intro vs w' hbw hdeps
         simp only [putsF, List.foldl_cons, List.foldl_nil]
         refine ⟨by first | rfl | go_simp, ?_⟩
         first | with_reducible refine wild_plain ?_ | with_reducible refine wild_link ?_
         clear hdeps
         go_simp
        ·exact wildUpon_value ⟨⟨rfl, trivial⟩, Below.refl _ _, fun b hb => by cases hb⟩
        ·exact wild_var
       ·skip
        intro vs w' hbw hr hap hlk
        simp only [List.forall_mem_cons, List.not_mem_nil, false_implies, implies_true, and_true] at hr hap
        obtain ⟨hh11, ⟨hh12, n12⟩⟩ := hr
        obtain ⟨e11, t11⟩ := hh11
        obtain ⟨q3, e12, hobj⟩ := hh12
        rw [e12] at n12
        clear hlk
        try simp only [e11, e12] at hap
        try simp only [newB_ptr, newB_row, newB_win, newB_win2, List.mem_cons, forall_eq_or_imp, or_false, List.mem_singleton, forall_eq, List.not_mem_nil, false_implies, implies_true, not_false_eq_true, and_true, true_and] at n12 hap
        try simp only [ne_eq, not_true_eq_false, false_implies, true_and, and_true, Nat.reduceEqDiff, not_false_eq_true, forall_const] at hap
        simp only [putsF, List.foldl_cons, List.foldl_nil, e11, e12, List.drop_succ_cons, List.drop_zero]
        clear e11 e12
        clear t11
        have HBW := Lib.hid hbw
        have y0 := heap_cell 0 _ hobj rfl
        have y1 := heap_cell 1 _ hobj rfl
        have y2 := heap_cell 2 _ hobj rfl
        have f0 := heap_free 0 hobj
        have f1 := heap_free 1 hobj
        have f2 := heap_free 2 hobj
        have lq : q3 < w'.heap.size := (Array.getElem?_eq_some_iff.1 hobj).1
        have hqr : W6.heap.size ≤ q3 := n12.1
        clear hobj n12 hbw c0 c1' c2 lB x0
        go_upto_region 12 with (fail)
        refine wp_name fun W7 hW7 => ?_
        have hbW7 : Below W6.heap.size W6 W7 := by
         rw [hW7.out]
         exact HBW.out.trans (But.below ((((But.refl q3 _).set 0 _).set 1 _).set 2 _) _ hqr HBW.out.size)
        have HS7 := Lib.hid (HS6.out.trans (hbW7.mono HS6.out.size))
        have HBr7 := Lib.hid (HBr6.out.trans (hbW7.mono HBr6.out.size))
        clear hW7 y0 y1 y2 f0 f1 f2 lq hqr HBW hbW7 HS6 HBr6 HP3 lb6 HS6r HS5r
        obtain ⟨b1, o1, h1, hbz, hca⟩ := (HRN.out.below HBr7.out).2.2 _ _ HAZ.out
        cases h1
        have hce : W7.cell? ⟨bz, oz + (a + (O + 4)), none⟩ = some (.int .i64 ez) := by
         obtain ⟨b2, o2, h2, -, h3⟩ := (HRN.out.below HBr7.out).2.2 _ _ HEZ.out
         cases h2
         exact h3
        have hci : W7.cell? ⟨bz, oz + (a + (O + 6)), none⟩ = some (.int .i64 iz) := by
         obtain ⟨b2, o2, h2, -, h3⟩ := (HRN.out.below HBr7.out).2.2 _ _ HIZ.out
         cases h2
         exact h3
        rw [← HNA.out] at hca
        rw [← HNE.out] at hce
        obtain ⟨ni, hni⟩ : ∃ x : Nat, x = a + (O + 6) := ⟨_, rfl⟩
        rw [← hni] at hci
        have hnaI : (0 : Int) ≤ (na : Int) ∧ (na : Int) < (n : Int) := by have := HNA.out; omega
        have hneI : (0 : Int) ≤ (ne : Int) ∧ (ne : Int) < (n : Int) := by have := HNE.out; omega
        have hniI : (0 : Int) ≤ (ni : Int) ∧ (ni : Int) < (n : Int) := by omega
        have hw2 : IntKind.i64.wrap ((ne : Int) + 2) = (ni : Int) := by have := HNE.out; rw [IntKind.wrap_i64]; omega
        clear hni
        by_cases haz : az = 0
        ·have ua : (az != 0) = false := by simp [haz]
         have HA0 := Lib.hid haz
         clear haz
         by_cases hez : ez = 0
         ·have ue : (ez != 0) = false := by simp [hez]
          have HE0 := Lib.hid hez
          clear hez
          go_wp2
          go_roundw
          case rel => exact ⟨i + 1, by omega, by go_num, Lib.hid (HIFF.out.1.2 ⟨fun h => (by cases h), fun h => absurd HA0.out h, fun h => h.elim (fun h => (by cases h)) fun h => h.elim (fun h => absurd HA0.out h) fun h => absurd HE0.out h⟩), HS7⟩
          case measure => simp [intOf]; omega
         ·have ue : (ez != 0) = true := by simp [hez]
          have HE0 := Lib.hid hez
          clear hez
          by_cases hiz : iz = 0
          ·have ui : (iz != 0) = false := by simp [hiz]
           have HI0 := Lib.hid hiz
           clear hiz
           go_wp2
           go_roundw
           case rel => exact ⟨i + 1, by omega, by go_num, Lib.hid (HIFF.out.1.2 ⟨fun h => (by cases h), fun h => absurd HA0.out h, fun _ => HI0.out⟩), HS7⟩
           case measure => simp [intOf]; omega
          ·have ui : (iz != 0) = true := by simp [hiz]
           have HI0 := Lib.hid hiz
           clear hiz
           go_wp2
           go_ret
           exact ⟨⟨false, rfl, ⟨fun h => (by cases h), fun h => absurd (HIFF.out.2 h) (fun hh => HI0.out (hh.2.2 (.inr (.inr HE0.out))))⟩⟩, HBr7.out⟩
        ·have ua : (az != 0) = true := by simp [haz]
         have HA0 := Lib.hid haz
         clear haz
         by_cases hez : ez = 0
         ·have ue : (ez != 0) = false := by simp [hez]
          have HE0 := Lib.hid hez
          clear hez
          by_cases hiz : iz = 0
          ·have ui : (iz != 0) = false := by simp [hiz]
           have HI0 := Lib.hid hiz
           clear hiz
           go_wp2
           go_roundw
           case rel => exact ⟨i + 1, by omega, by go_num, Lib.hid (HIFF.out.1.2 ⟨fun h => (by cases h), fun _ => HE0.out, fun _ => HI0.out⟩), HS7⟩
           case measure => simp [intOf]; omega
          ·have ui : (iz != 0) = true := by simp [hiz]
           have HI0 := Lib.hid hiz
           clear hiz
           go_wp2
           go_ret
           exact ⟨⟨false, rfl, ⟨fun h => (by cases h), fun h => absurd (HIFF.out.2 h) (fun hh => HI0.out (hh.2.2 (.inr (.inl HA0.out))))⟩⟩, HBr7.out⟩
         ·have ue : (ez != 0) = true := by simp [hez]
          have HE0 := Lib.hid hez
          clear hez
          go_wp2
          go_ret
          exact ⟨⟨false, rfl, ⟨fun h => (by cases h), fun h => absurd (HIFF.out.2 h) (fun hh => HE0.out (hh.2.1 HA0.out))⟩⟩, HBr7.out⟩
     ·go_upto_region 10 with (fail)
      obtain ⟨sA, tA, iA, hpa⟩ := HPA.out
      have HP2 : Hid (∀ W', Below wc.heap.size wc W' → Calls Tryd.prog 15 #[.agg #[.string p.name, .slice (some ⟨b, off, none⟩) m kv, .slice Ab nb kb], .string vn, .string ⟨#[67, 111, 109, 109, 97, 110, 100, 65, 98, 111, 114, 116, 101, 100]⟩] W' fun e w' => e = .returned (.tuple #[.int .i64 ((a + (O + 3) : Nat) : Int), .agg #[.string sA, .int .i64 tA, .bool iA], .bool true]) ∧ Below W'.heap.size W' w') := Lib.hid (fun W' hW' => by
       have := HPW.out nmAborted W' (HS5r.out.trans (hW'.mono HS5r.out.size))
       rw [hpa] at this
       exact this)
      clear hpa
      obtain ⟨c0, c1', c2, lB⟩ := HC.out wc HS5.out
      obtain ⟨x0, lb5⟩ := HXB.out wc HS5r.out
      obtain ⟨na, hna⟩ : ∃ x : Nat, x = a + (O + 3) := ⟨_, rfl⟩
      have HNA := Lib.hid hna
      rw [← hna] at HP2
      clear hna
      refine wp_region_wild 14 11 ([{ i := 11, d := 74, R := isVal (.bool true), N := (fun _ => []) }, { i := 12, d := 12, R := isVar (.cells #[.string ⟨#[]⟩, .int .i64 0, .bool false] 57), N := newB }] : List Wd) [false, false, false, false, false, false, false, false, false, false, false, true, true, false] rfl (by kernel_rfl) (by kernel_rfl) (fun _ _ _ _ _ h => h) (by kernel_rfl) ?_ ?_
      ·intro x hx v w1 w2 hR hb
       simp only [List.mem_cons, List.not_mem_nil, or_false] at hx
       rcases hx with rfl | rfl
       all_goals (dsimp only at hR ⊢; exact hR.below hb)
      apply Exists.intro
      refine ⟨fun S hS hne => ?_, ?_, ?_, ?_⟩
      ·simp only [List.take_succ_cons, List.take_zero, List.map_cons, List.map_nil]
       delta CS
       repeat (first | with_reducible refine mask_skip ?_ | ((with_reducible refine mask_keep ?_); go_big_quiet_step ((go_at_call 15; exact extS_call hS (HP2.out _ (extS_below _))))))
       exact mask_nil rfl
      ·skip
       intro x hx he
       simp only [List.mem_cons, List.not_mem_nil, or_false] at hx
       rcases hx with rfl | rfl
       all_goals (dsimp only at he; first | (exact absurd he (by decide)) | clear he)
       intro o ho
       simp only [List.getElem?_cons_succ, List.getElem?_cons_zero, Option.some.injEq] at ho
       subst ho
       intro vs w' hbw hdeps
       simp only [putsF, List.foldl_cons, List.foldl_nil]
       simp only [List.forall_mem_cons, List.not_mem_nil, false_implies, implies_true, and_true] at hdeps
       obtain ⟨dp0, dp1⟩ := hdeps
       clear dp0 dp1
       refine ⟨.bool true, fun u => ?_⟩
       go_simp
      ·skip
       simp only [List.forall_mem_cons, List.not_mem_nil, false_implies, implies_true, and_true]
       refine ⟨?_, ?_⟩
       all_goals
        intro o ho
        simp only [List.getElem?_cons_succ, List.getElem?_cons_zero, Option.some.injEq] at ho
        subst ho
        intro vs w' hbw hdeps
        simp only [putsF, List.foldl_cons, List.foldl_nil]
        refine ⟨by first | rfl | go_simp, ?_⟩
        first | with_reducible refine wild_plain ?_ | with_reducible refine wild_link ?_
        clear hdeps
        go_simp
       ·exact wildUpon_value ⟨⟨rfl, trivial⟩, Below.refl _ _, fun b hb => by cases hb⟩
       ·exact wild_var
      ·skip
       intro vs w' hbw hr hap hlk
       simp only [List.forall_mem_cons, List.not_mem_nil, false_implies, implies_true, and_true] at hr hap
       obtain ⟨hh11, ⟨hh12, n12⟩⟩ := hr
       obtain ⟨e11, t11⟩ := hh11
       obtain ⟨q2, e12, hobj⟩ := hh12
       rw [e12] at n12
       clear hlk
       try simp only [e11, e12] at hap
       try simp only [newB_ptr, newB_row, newB_win, newB_win2, List.mem_cons, forall_eq_or_imp, or_false, List.mem_singleton, forall_eq, List.not_mem_nil, false_implies, implies_true, not_false_eq_true, and_true, true_and] at n12 hap
       try simp only [ne_eq, not_true_eq_false, false_implies, true_and, and_true, Nat.reduceEqDiff, not_false_eq_true, forall_const] at hap
       simp only [putsF, List.foldl_cons, List.foldl_nil, e11, e12, List.drop_succ_cons, List.drop_zero]
       clear e11 e12
       clear t11
       have HBW := Lib.hid hbw
       have y0 := heap_cell 0 _ hobj rfl
       have y1 := heap_cell 1 _ hobj rfl
       have y2 := heap_cell 2 _ hobj rfl
       have f0 := heap_free 0 hobj
       have f1 := heap_free 1 hobj
       have f2 := heap_free 2 hobj
       have lq : q2 < w'.heap.size := (Array.getElem?_eq_some_iff.1 hobj).1
       have hqr : wc.heap.size ≤ q2 := n12.1
       clear hobj n12 hbw c0 c1' c2 lB x0
       go_upto_region 11 with (fail)
       refine wp_name fun W6 hW6 => ?_
       have hbW6 : Below wc.heap.size wc W6 := by
        rw [hW6.out]
        exact HBW.out.trans (But.below ((((But.refl q2 _).set 0 _).set 1 _).set 2 _) _ hqr HBW.out.size)
       have HS6 := Lib.hid (HS5.out.trans (hbW6.mono HS5.out.size))
       have HBr6 := Lib.hid (HBr5.out.trans (hbW6.mono HBr5.out.size))
       have HS6r := Lib.hid (HS5r.out.trans (hbW6.mono HS5r.out.size))
       clear hW6 y0 y1 y2 f0 f1 f2 lq hqr HBW hbW6 HS5 HBr5 HP2 lb5
       obtain ⟨sE, tE, iE, hpe⟩ := HPE.out
       have HP3 : Hid (∀ W', Below W6.heap.size W6 W' → Calls Tryd.prog 15 #[.agg #[.string p.name, .slice (some ⟨b, off, none⟩) m kv, .slice Ab nb kb], .string vn, .string ⟨#[69, 114, 114, 111, 114]⟩] W' fun e w' => e = .returned (.tuple #[.int .i64 ((a + (O + 4) : Nat) : Int), .agg #[.string sE, .int .i64 tE, .bool iE], .bool true]) ∧ Below W'.heap.size W' w') := Lib.hid (fun W' hW' => by
        have := HPW.out nmError W' (HS6r.out.trans (hW'.mono HS6r.out.size))
        rw [hpe] at this
        exact this)
       clear hpe
       obtain ⟨c0, c1', c2, lB⟩ := HC.out W6 HS6.out
       obtain ⟨x0, lb6⟩ := HXB.out W6 HS6r.out
       obtain ⟨ne, hne⟩ : ∃ x : Nat, x = a + (O + 4) := ⟨_, rfl⟩
       have HNE := Lib.hid hne
       rw [← hne] at HP3
       clear hne
       refine wp_region_wild 14 11 ([{ i := 11, d := 86, R := isVal (.bool true), N := (fun _ => []) }, { i := 12, d := 15, R := isVar (.cells #[.string ⟨#[]⟩, .int .i64 0, .bool false] 57), N := newB }] : List Wd) [false, false, false, false, false, false, false, false, false, false, false, true, true, false] rfl (by kernel_rfl) (by kernel_rfl) (fun _ _ _ _ _ h => h) (by kernel_rfl) ?_ ?_
       ·intro x hx v w1 w2 hR hb
        simp only [List.mem_cons, List.not_mem_nil, or_false] at hx
        rcases hx with rfl | rfl
        all_goals (dsimp only at hR ⊢; exact hR.below hb)
       apply Exists.intro
       refine ⟨fun S hS hne => ?_, ?_, ?_, ?_⟩
       ·simp only [List.take_succ_cons, List.take_zero, List.map_cons, List.map_nil]
        delta CS
        repeat (first | with_reducible refine mask_skip ?_ | ((with_reducible refine mask_keep ?_); go_big_quiet_step ((go_at_call 15; exact extS_call hS (HP3.out _ (extS_below _))))))
        exact mask_nil rfl
       ·skip
        intro x hx he
        simp only [List.mem_cons, List.not_mem_nil, or_false] at hx
        rcases hx with rfl | rfl
        all_goals (dsimp only at he; first | (exact absurd he (by decide)) | clear he)
        intro o ho
        simp only [List.getElem?_cons_succ, List.getElem?_cons_zero, Option.some.injEq] at ho
        subst ho
        intro vs w' hbw hdeps
        simp only [putsF, List.foldl_cons, List.foldl_nil]
        simp only [List.forall_mem_cons, List.not_mem_nil, false_implies, implies_true, and_true] at hdeps
        obtain ⟨dp0, dp1⟩ := hdeps
        clear dp0 dp1
        refine ⟨.bool true, fun u => ?_⟩
        go_simp
       ·skip
        simp only [List.forall_mem_cons, List.not_mem_nil, false_implies, implies_true, and_true]
        refine ⟨?_, ?_⟩
        all_goals
         intro o ho
         simp only [List.getElem?_cons_succ, List.getElem?_cons_zero, Option.some.injEq] at ho
         subst ho
         intro vs w' hbw hdeps
         simp only [putsF, List.foldl_cons, List.foldl_nil]
         refine ⟨by first | rfl | go_simp, ?_⟩
         first | with_reducible refine wild_plain ?_ | with_reducible refine wild_link ?_
         clear hdeps
         go_simp
        ·exact wildUpon_value ⟨⟨rfl, trivial⟩, Below.refl _ _, fun b hb => by cases hb⟩
        ·exact wild_var
       ·skip
        intro vs w' hbw hr hap hlk
        simp only [List.forall_mem_cons, List.not_mem_nil, false_implies, implies_true, and_true] at hr hap
        obtain ⟨hh11, ⟨hh12, n12⟩⟩ := hr
        obtain ⟨e11, t11⟩ := hh11
        obtain ⟨q3, e12, hobj⟩ := hh12
        rw [e12] at n12
        clear hlk
        try simp only [e11, e12] at hap
        try simp only [newB_ptr, newB_row, newB_win, newB_win2, List.mem_cons, forall_eq_or_imp, or_false, List.mem_singleton, forall_eq, List.not_mem_nil, false_implies, implies_true, not_false_eq_true, and_true, true_and] at n12 hap
        try simp only [ne_eq, not_true_eq_false, false_implies, true_and, and_true, Nat.reduceEqDiff, not_false_eq_true, forall_const] at hap
        simp only [putsF, List.foldl_cons, List.foldl_nil, e11, e12, List.drop_succ_cons, List.drop_zero]
        clear e11 e12
        clear t11
        have HBW := Lib.hid hbw
        have y0 := heap_cell 0 _ hobj rfl
        have y1 := heap_cell 1 _ hobj rfl
        have y2 := heap_cell 2 _ hobj rfl
        have f0 := heap_free 0 hobj
        have f1 := heap_free 1 hobj
        have f2 := heap_free 2 hobj
        have lq : q3 < w'.heap.size := (Array.getElem?_eq_some_iff.1 hobj).1
        have hqr : W6.heap.size ≤ q3 := n12.1
        clear hobj n12 hbw c0 c1' c2 lB x0
        go_upto_region 12 with (fail)
        refine wp_name fun W7 hW7 => ?_
        have hbW7 : Below W6.heap.size W6 W7 := by
         rw [hW7.out]
         exact HBW.out.trans (But.below ((((But.refl q3 _).set 0 _).set 1 _).set 2 _) _ hqr HBW.out.size)
        have HS7 := Lib.hid (HS6.out.trans (hbW7.mono HS6.out.size))
        have HBr7 := Lib.hid (HBr6.out.trans (hbW7.mono HBr6.out.size))
        clear hW7 y0 y1 y2 f0 f1 f2 lq hqr HBW hbW7 HS6 HBr6 HP3 lb6 HS6r HS5r
        obtain ⟨b1, o1, h1, hbz, hca⟩ := (HRN.out.below HBr7.out).2.2 _ _ HAZ.out
        cases h1
        have hce : W7.cell? ⟨bz, oz + (a + (O + 4)), none⟩ = some (.int .i64 ez) := by
         obtain ⟨b2, o2, h2, -, h3⟩ := (HRN.out.below HBr7.out).2.2 _ _ HEZ.out
         cases h2
         exact h3
        have hci : W7.cell? ⟨bz, oz + (a + (O + 6)), none⟩ = some (.int .i64 iz) := by
         obtain ⟨b2, o2, h2, -, h3⟩ := (HRN.out.below HBr7.out).2.2 _ _ HIZ.out
         cases h2
         exact h3
        rw [← HNA.out] at hca
        rw [← HNE.out] at hce
        obtain ⟨ni, hni⟩ : ∃ x : Nat, x = a + (O + 6) := ⟨_, rfl⟩
        rw [← hni] at hci
        have hnaI : (0 : Int) ≤ (na : Int) ∧ (na : Int) < (n : Int) := by have := HNA.out; omega
        have hneI : (0 : Int) ≤ (ne : Int) ∧ (ne : Int) < (n : Int) := by have := HNE.out; omega
        have hniI : (0 : Int) ≤ (ni : Int) ∧ (ni : Int) < (n : Int) := by omega
        have hw2 : IntKind.i64.wrap ((ne : Int) + 2) = (ni : Int) := by have := HNE.out; rw [IntKind.wrap_i64]; omega
        clear hni
        by_cases haz : az = 0
        ·have ua : (az != 0) = false := by simp [haz]
         have HA0 := Lib.hid haz
         clear haz
         by_cases hez : ez = 0
         ·have ue : (ez != 0) = false := by simp [hez]
          have HE0 := Lib.hid hez
          clear hez
          by_cases hiz : iz = 0
          ·have ui : (iz != 0) = false := by simp [hiz]
           have HI0 := Lib.hid hiz
           clear hiz
           go_wp2
           go_roundw
           case rel => exact ⟨i + 1, by omega, by go_num, Lib.hid (HIFF.out.1.2 ⟨fun _ => ⟨HA0.out, HE0.out⟩, fun _ => HE0.out, fun _ => HI0.out⟩), HS7⟩
           case measure => simp [intOf]; omega
          ·have ui : (iz != 0) = true := by simp [hiz]
           have HI0 := Lib.hid hiz
           clear hiz
           go_wp2
           go_ret
           exact ⟨⟨false, rfl, ⟨fun h => (by cases h), fun h => absurd (HIFF.out.2 h) (fun hh => HI0.out (hh.2.2 (.inl (by trivial))))⟩⟩, HBr7.out⟩
         ·have ue : (ez != 0) = true := by simp [hez]
          have HE0 := Lib.hid hez
          clear hez
          go_wp2
          go_ret
          exact ⟨⟨false, rfl, ⟨fun h => (by cases h), fun h => absurd (HIFF.out.2 h) (fun hh => HE0.out (hh.1 (by trivial)).2)⟩⟩, HBr7.out⟩
        ·have ua : (az != 0) = true := by simp [haz]
         have HA0 := Lib.hid haz
         clear haz
         by_cases hez : ez = 0
         ·have ue : (ez != 0) = false := by simp [hez]
          have HE0 := Lib.hid hez
          clear hez
          go_wp2
          go_ret
          exact ⟨⟨false, rfl, ⟨fun h => (by cases h), fun h => absurd (HIFF.out.2 h) (fun hh => HA0.out (hh.1 (by trivial)).1)⟩⟩, HBr7.out⟩
         ·have ue : (ez != 0) = true := by simp [hez]
          have HE0 := Lib.hid hez
          clear hez
          go_wp2
          go_ret
          exact ⟨⟨false, rfl, ⟨fun h => (by cases h), fun h => absurd (HIFF.out.2 h) (fun hh => HA0.out (hh.1 (by trivial)).1)⟩⟩, HBr7.out⟩
  ·obtain rfl : i = m := by omega
   have HALL : Hid (OneAll (blks p.vars) zs) := Lib.hid (by
    have := HTO.out
    rw [← HM.out] at this
    exact this.all)
   go_wp2
   go_ret
   exact ⟨⟨true, rfl, fun _ => HALL.out, fun _ => rfl⟩, HBr.out⟩

end Go.Proofs.YtknnhnefbbjcdaaDoor

namespace Go.Proofs.YtknnhnefbbjcdaaDoor
open Go.RowKit
set_option linter.unusedVariables false
set_option linter.unusedSimpArgs false
attribute [local go_sem] ite_max ite_min vite_max vite_min ext_cell ext_frozen

theorem asked_size : (Tryd.prog.info? 40).map (·.size) = some 4 := by kernel_rfl
theorem asked_one {A : Option Addr} {n c : Nat} {z : Int} {v2 v3 : Value} (h2 : v2.oneCell' = true) (h3 : v3.oneCell' = true) : (#[Value.slice A n c, .int .i64 z, v2, v3] : Array Value).all (·.oneCell') = true := by
 simp [Value.oneCell']
 exact ⟨by simpa [Value.oneCell'] using h2, by simpa [Value.oneCell'] using h3⟩
theorem fold_len1 {β : Type} (f : List Int → β → List Int) (hf : ∀ z b, (f z b).length = z.length) : ∀ (l : List β) (z : List Int), (l.foldl f z).length = z.length
 | [], _ => rfl
 | x :: l, z => by rw [List.foldl_cons, fold_len1 f hf l, hf]
theorem tellP_len1 (bl : List BlK) (xs : List AxS) (ll : List (List (Int × Int))) (zs : List Int) : (tellP bl xs ll zs).length = zs.length := by
 unfold tellP lookP
 rw [fold_len1 (look1 xs) (fun z b => looksP_len _ _ _ _)]
 unfold repssP repsP repP
 exact fold_len1 _ (fun z l => fold_len1 _ (fun z r => fold_len1 _ (fun z b => rep1_len _ _ _ _) _ _) _ _) _ _

set_option maxRecDepth 100000 in
set_option maxHeartbeats 8000000 in
theorem walk_BlockOne (p : Prg) (cs : List Value) (zs : List Int) (A : Option Addr) (n c : Nat) (nx : Int) (xs : List AxS) (Ax : Option Addr) (kx : Nat) (ll : List (List (Int × Int))) (Ar : Option Addr) (kr : Nat) (w : World)
  (h : PrgAt w p cs) (hsm : ∀ s ∈ p.body, SmS s) (hr : RowN w A zs c) (hl : zs.length = n) (hx : RowX w Ax xs kx) (hrr : RowRR w Ar ll kr) (ht : Blanks w) :
  Calls Tryd.prog 3 #[.agg cs.toArray, .slice A n c, .int .i64 nx, .slice Ax xs.length kx, .slice Ar ll.length kr] w fun e w' => e = .returned (.bool true) ∧ Below w.heap.size w w' := by
 obtain ⟨Av, kv, Ab, kb, rfl, hv, hbd⟩ := h
 have HP : Hid (PrgAt w p [.string p.name, .slice Av p.vars.length kv, .slice Ab p.body.length kb]) := Lib.hid ⟨Av, kv, Ab, kb, rfl, hv, hbd⟩
 have HSM := Lib.hid hsm
 have HT := Lib.hid ht
 have HX := Lib.hid hx
 have HRR := Lib.hid hrr
 have HR := Lib.hid hr
 have HL := Lib.hid hl
 obtain ⟨m, hm⟩ : ∃ m, p.vars.length = m := ⟨_, rfl⟩
 obtain ⟨nb, hnb⟩ : ∃ m, p.body.length = m := ⟨_, rfl⟩
 obtain ⟨nx', hnx⟩ : ∃ m, xs.length = m := ⟨_, rfl⟩
 obtain ⟨nl, hnl⟩ : ∃ m, ll.length = m := ⟨_, rfl⟩
 obtain ⟨sm, hsm'⟩ : ∃ s, sumN p.vars = s := ⟨_, rfl⟩
 have HSMM := Lib.hid hsm'
 have HNX := Lib.hid hnx
 have HFEW : Hid (∀ W, Below w.heap.size w W → Calls Tryd.prog 7 #[.slice Ax nx' kx, .slice Ar nl kr] W fun e w' => BoolIf (xs.length ≤ 4) e ∧ Below W.heap.size W w') := Lib.hid (fun W hW => by
  rw [← hnx, ← hnl]
  exact few_any xs Ax kx ll Ar kr W (HRR.out.below hW))
 have HFIT : Hid (∀ W, Below w.heap.size w W → Calls Tryd.prog 5 #[.agg #[.string p.name, .slice Av m kv, .slice Ab nb kb]] W fun e w' => BoolIf (FitP p ∧ DiffN p.vars ∧ sumN p.vars ≤ 1024) e ∧ Below W.heap.size W w') := Lib.hid (fun W hW => by
  have := fits27_any p _ W (HP.out.keep hW) HSM.out
  rw [hm, hnb] at this
  exact this)
 have HOF : Hid (FitP p → ∀ W, Below w.heap.size w W → Calls Tryd.prog 6 #[.agg #[.string p.name, .slice Av m kv, .slice Ab nb kb]] W fun e w' => (∃ vA vF, e = .returned (.agg #[vA, .int .i64 (sm : Int), vF])) ∧ Below W.heap.size W w') := Lib.hid (fun hf W hW => by
  have := layof_any p _ W (HP.out.keep hW) (fun v hv => (hf.vars v hv).arrOk) hf.vl (HT.out.on hW)
  rw [hm, hnb] at this
  refine this.mono ?_
  rintro e w' ⟨⟨v, rfl, vA, vF, rfl, -, -⟩, hb⟩
  rw [hsm']
  exact ⟨⟨vA, vF, rfl⟩, hb⟩)
 have HONE : Hid (FitP p → DiffN p.vars → ∀ (zz : List Int) W A1 c1 n1, n1 = sm → zz.length = n1 → Below w.heap.size w W → RowN W A1 zz c1 → Calls Tryd.prog 8 #[.agg #[.string p.name, .slice Av m kv, .slice Ab nb kb], .slice A1 n1 c1] W fun e w' => BoolIs (OneAll (blks p.vars) zz) e ∧ Below W.heap.size W w') := Lib.hid (fun hf hd zz W A1 c1 n1 hn1 hz hW hrow => by
  have := one_any p _ zz A1 n1 c1 W (HP.out.keep hW) (fun v hv => (hf.vars v hv).arrOk) (fun v hv ha => ((hf.vars v hv).ar ha).1) hd hf.vl (HT.out.on hW) hrow hz (by rw [hn1, hsm'])
  rw [hm, hnb] at this
  exact this)
 have HASK : Hid (FitP p → sm ≤ 1024 → n = sm → xs.length ≤ 4 → ∀ W, Below w.heap.size w W → Calls Tryd.prog 9 #[.agg #[.string p.name, .slice Av m kv, .slice Ab nb kb], .slice A n c, .int .i64 nx, .int .i64 (nx' : Int)] W fun e w' => (∃ A' c' ny v2 v3 zs', e = .returned (.agg #[.slice A' n c', .int .i64 ny, v2, v3]) ∧ zs'.length = n ∧ RowN w' A' zs' c' ∧ (A' = none ∨ ∃ b off, A' = some ⟨b, off, none⟩) ∧ (OneAll (blks p.vars) zs → OneAll (blks p.vars) zs') ∧ v2.oneCell' = true ∧ v3.oneCell' = true) ∧ Below W.heap.size W w') := Lib.hid (fun hf h1024 hn h4 W hW => by
  have := askS_at p _ zs A n c nx nx' W (HP.out.keep hW) (fun v hv => (hf.vars v hv).arrOk) (fun v hv ha => ((hf.vars v hv).ar ha).1) hf.vl (HT.out.on hW) (HR.out.below hW) HL.out (by omega) (by rw [hn, hsm']) (by omega)
  rw [hm, hnb] at this
  exact this)
 have HTELL : Hid (FitP p → sm ≤ 1024 → n = sm → xs.length ≤ 4 → ∀ (zz : List Int) W A1 c1, zz.length = n → Below w.heap.size w W → RowN W A1 zz c1 → (A1 = none ∨ ∃ b off, A1 = some ⟨b, off, none⟩) → Calls Tryd.prog 10 #[.agg #[.string p.name, .slice Av m kv, .slice Ab nb kb], .slice A1 n c1, .slice Ax nx' kx, .slice Ar nl kr] W fun e w' => (∃ v, e = .returned v ∧ ∃ A' c', v = .slice A' n c' ∧ RowN w' A' (tellP (blks p.vars) xs ll zz) c') ∧ Below W.heap.size W w') := Lib.hid (fun hf h1024 hn h4 zz W A1 c1 hz hW h1 h2 => by
  have := tellS_at p _ zz A1 n c1 xs Ax kx ll Ar kr W (HP.out.keep hW) (fun v hv => (hf.vars v hv).arrOk) (fun v hv ha => ((hf.vars v hv).ar ha).1) hf.vl (HT.out.on hW) h1 h2 hz (by omega) (HX.out.below hW) h4 (HRR.out.below hW)
  rw [hm, hnb, hnx, hnl, if_pos (by rw [hn, hsm'])] at this
  exact this)
 have HT1 : Hid (FitP p → n = sm → ∀ (zz : List Int), zz.length = n → OneAll (blks p.vars) zz → (tellP (blks p.vars) xs ll zz).length = n ∧ OneAll (blks p.vars) (tellP (blks p.vars) xs ll zz)) := Lib.hid (fun hf hn zz hz h1 => by
  have hmot : ∀ v ∈ p.vars, v.arr = true → v.type ≤ 2 := fun v hv ha => ((hf.vars v hv).ar ha).1
  have hok : BlOk (blks p.vars) n := by rw [hn, ← hsm']; exact blksT_ok hmot p.vars.length (Nat.le_refl _)
  exact ⟨by rw [tellP_len1, hz], tell_one (blks_apart hmot) hok xs ll zz hz h1⟩)
 have hc1 := hr.1
 have hc2 := hr.2.1
 rw [hl] at hc1
 show Calls Tryd.prog 3 #[.agg #[.string p.name, .slice Av p.vars.length kv, .slice Ab p.body.length kb], .slice A n c, .int .i64 nx, .slice Ax xs.length kx, .slice Ar ll.length kr] w _
 rw [hm, hnb, hnx, hnl]
 clear hv hbd hsm ht hx hrr hr hl hm hnb hnx hnl hsm' HP HSM
 go_enter Tryd.func3, Tryd.ntmps3
 go_upto_region 1 with (fail)
 refine wp_name fun W hW => ?_
 obtain ⟨B, hB⟩ : ∃ B, B = w.heap.size := ⟨_, rfl⟩
 have HC : Hid (∀ W', Below W.heap.size W W' → W'.cell? ⟨B, 0, none⟩ = some (.string p.name) ∧ W'.cell? ⟨B, 1, none⟩ = some (.slice Av m kv) ∧ W'.cell? ⟨B, 2, none⟩ = some (.slice Ab nb kb) ∧ B < W'.heap.size) := Lib.hid (fun W' hW' => by
  have hl : B < W.heap.size := by rw [hW.out, hB]; simp
  exact ⟨(hW'.cell (p := ⟨B, 0, none⟩) hl).trans (by rw [hW.out, hB]; go_simp), (hW'.cell (p := ⟨B, 1, none⟩) hl).trans (by rw [hW.out, hB]; go_simp), (hW'.cell (p := ⟨B, 2, none⟩) hl).trans (by rw [hW.out, hB]; go_simp), Nat.lt_of_lt_of_le hl hW'.size⟩)
 have hbel : Below w.heap.size w W := by rw [hW.out]; exact belowBy
 have HB := Lib.hid hbel
 (try rw [← hB])
 clear hW hbel hB
 go_wp2_with fail
 refine (awake27 W (HT.out.on HB.out)).mono ?_
 rintro e w1 ⟨rfl, hb1⟩
 have HS1 := Lib.hid hb1
 have HB1 := Lib.hid (HB.out.trans (hb1.mono HB.out.size))
 clear hb1 HB
 obtain ⟨c0, c1, c2, lB⟩ := HC.out w1 HS1.out
 go_wp2_with fail
 refine (HFIT.out w1 HB1.out).mono ?_
 rintro e w2 ⟨⟨b, rfl, hf⟩, hb2⟩
 have HF := Lib.hid hf
 have HS2 := Lib.hid (HS1.out.trans (hb2.mono HS1.out.size))
 have HB2 := Lib.hid (HB1.out.trans (hb2.mono HB1.out.size))
 clear hb2 hf HS1 HB1 c0 c1 c2 lB
 obtain ⟨c0, c1, c2, lB⟩ := HC.out w2 HS2.out
 cases b
 ·go_wp2
  go_ret
  exact ⟨rfl, HB2.out⟩
 have HFP : Hid (FitP p) := Lib.hid (HF.out rfl).1
 have HDF : Hid (DiffN p.vars) := Lib.hid (HF.out rfl).2.1
 have HS24 : Hid (sm ≤ 1024) := Lib.hid (by rw [← HSMM.out]; exact (HF.out rfl).2.2)
 clear HF
 go_wp2_with fail
 refine (HOF.out HFP.out w2 HB2.out).mono ?_
 rintro e w3 ⟨⟨vA, vF, rfl⟩, hb3⟩
 have hfd : ∀ W : World, (Instr.field 33 (.agg #[vA, .int .i64 (sm : Int), vF]) 1).run Tryd.prog W = .ok (.int .i64 (sm : Int)) W := fun W => by kernel_rfl
 have HS3 := Lib.hid (HS2.out.trans (hb3.mono HS2.out.size))
 have HB3 := Lib.hid (HB2.out.trans (hb3.mono HB2.out.size))
 clear hb3 HS2 HB2 c0 c1 c2 lB
 obtain ⟨c0, c1, c2, lB⟩ := HC.out w3 HS3.out
 by_cases hnn : ¬ n = sm
 ·have hne : ((n : Int) != (sm : Int)) = true := by simp; omega
  go_wp2
  go_ret
  exact ⟨rfl, HB3.out⟩
 have hns : n = sm := Decidable.not_not.1 hnn
 clear hnn
 have hne : ((n : Int) != (sm : Int)) = false := by simp [hns]
 have HNS := Lib.hid hns
 clear hns
 go_wp2_with fail
 refine (HFEW.out w3 HB3.out).mono ?_
 rintro e w4 ⟨⟨b, rfl, hf⟩, hb4⟩
 have HF := Lib.hid hf
 have HS4 := Lib.hid (HS3.out.trans (hb4.mono HS3.out.size))
 have HB4 := Lib.hid (HB3.out.trans (hb4.mono HB3.out.size))
 clear hb4 hf HS3 HB3 c0 c1 c2 lB
 obtain ⟨c0, c1, c2, lB⟩ := HC.out w4 HS4.out
 cases b
 ·go_wp2
  go_ret
  exact ⟨rfl, HB4.out⟩
 have HX4 := Lib.hid (HF.out rfl)
 clear HF
 go_wp2_with fail
 refine (HONE.out HFP.out HDF.out zs w4 A c n HNS.out HL.out HB4.out (HR.out.below HB4.out)).mono ?_
 rintro e w5 ⟨⟨b, rfl, hone⟩, hb5⟩
 have HON := Lib.hid hone
 have HS5 := Lib.hid (HS4.out.trans (hb5.mono HS4.out.size))
 have HB5 := Lib.hid (HB4.out.trans (hb5.mono HB4.out.size))
 clear hb5 hone HS4 HB4 c0 c1 c2 lB
 obtain ⟨c0, c1, c2, lB⟩ := HC.out w5 HS5.out
 cases b
 ·go_wp2
  go_ret
  exact ⟨rfl, HB5.out⟩
 have HO0 : Hid (OneAll (blks p.vars) zs) := Lib.hid (HON.out.1 rfl)
 clear HON
 go_wp2_with fail
 refine (HASK.out HFP.out HS24.out HNS.out HX4.out w5 HB5.out).mono ?_
 rintro e w6 ⟨⟨A6, c6, ny, v2, v3, z6, rfl, hz6, hr6, hA6, ho6, h26, h36⟩, hb6⟩
 have HZ6 := Lib.hid hz6
 have HR6 := Lib.hid hr6
 have HA6 := Lib.hid hA6
 have HO6 : Hid (OneAll (blks p.vars) z6) := Lib.hid (ho6 HO0.out)
 have HS6 := Lib.hid (HS5.out.trans (hb6.mono HS5.out.size))
 have HB6 := Lib.hid (HB5.out.trans (hb6.mono HB5.out.size))
 clear hb6 hz6 hr6 hA6 ho6 HS5 HB5 c0 c1 c2 lB
 go_upto_region 6 with (refine wpList_store_new rfl 40 _ _ rfl w6 _ #[.slice A6 n c6, .int .i64 ny, v2, v3] rfl rfl rfl asked_size rfl (asked_one h26 h36) ?_)
 refine wp_name fun W7 hW7 => ?_
 obtain ⟨Q, hQ⟩ : ∃ B, B = w6.heap.size := ⟨_, rfl⟩
 have hh7 : W7.heap[Q]? = some (.cells #[.slice A6 n c6, .int .i64 ny, v2, v3] 40) := by rw [hW7.out, hQ]; exact heap_alloc_new _ _
 have hb7 : Below w6.heap.size w6 W7 := by rw [hW7.out]; exact belowBy
 have HQ : Hid (∀ W', Below W7.heap.size W7 W' → W'.cell? ⟨Q, 0, none⟩ = some (.slice A6 n c6) ∧ Q < W'.heap.size) := Lib.hid (fun W' hW' => by
  have hl : Q < W7.heap.size := (Array.getElem?_eq_some_iff.1 hh7).1
  exact ⟨(hW'.cell (p := ⟨Q, 0, none⟩) hl).trans (heap_cell 0 _ hh7 rfl), Nat.lt_of_lt_of_le hl hW'.size⟩)
 have HR7 := Lib.hid (HR6.out.below hb7)
 have HS7 := Lib.hid (HS6.out.trans (hb7.mono HS6.out.size))
 have HB7 := Lib.hid (HB6.out.trans (hb7.mono HB6.out.size))
 (try rw [← hQ])
 (try simp only [Act.put])
 clear hW7 hh7 hb7 hQ HS6 HB6 HR6 h26 h36
 obtain ⟨c0, c1, c2, lB⟩ := HC.out W7 HS7.out
 obtain ⟨q0, lQ⟩ := HQ.out W7 (Below.refl _ _)
 go_wp2_with fail
 refine (HTELL.out HFP.out HS24.out HNS.out HX4.out z6 W7 A6 c6 HZ6.out HB7.out HR7.out HA6.out).mono ?_
 rintro e w8 ⟨⟨v8, rfl, A8, c8, rfl, hr8⟩, hb8⟩
 obtain ⟨z8, hz8⟩ : ∃ z : List Int, tellP (blks p.vars) xs ll z6 = z := ⟨_, rfl⟩
 have HZ8 : Hid (z8.length = n ∧ OneAll (blks p.vars) z8) := Lib.hid (by rw [← hz8]; exact HT1.out HFP.out HNS.out z6 HZ6.out HO6.out)
 rw [hz8] at hr8
 have HR8 := Lib.hid hr8
 have HQ8 := Lib.hid hb8
 have HR68 := Lib.hid (HR7.out.below hb8)
 have HS8 := Lib.hid (HS7.out.trans (hb8.mono HS7.out.size))
 have HB8 := Lib.hid (HB7.out.trans (hb8.mono HB7.out.size))
 clear hb8 hr8 hz8 HS7 HB7 HR7 c0 c1 c2 lB q0 lQ
 obtain ⟨c0, c1, c2, lB⟩ := HC.out w8 HS8.out
 obtain ⟨q0, lQ⟩ := HQ.out w8 HQ8.out
 go_wp2_with fail
 refine (HONE.out HFP.out HDF.out z6 w8 A6 c6 n HNS.out HZ6.out HB8.out HR68.out).mono ?_
 rintro e w9 ⟨⟨b, rfl, hone⟩, hb9⟩
 obtain rfl : b = true := hone.2 HO6.out
 have HR9 := Lib.hid (HR8.out.below hb9)
 have HS9 := Lib.hid (HS8.out.trans (hb9.mono HS8.out.size))
 have HB9 := Lib.hid (HB8.out.trans (hb9.mono HB8.out.size))
 clear hone hb9 HS8 HB8 HR8 c0 c1 c2 lB q0 lQ
 obtain ⟨c0, c1, c2, lB⟩ := HC.out w9 HS9.out
 go_wp2_with fail
 refine (HONE.out HFP.out HDF.out z8 w9 A8 c8 n HNS.out HZ8.out.1 HB9.out HR9.out).mono ?_
 rintro e w10 ⟨⟨b, rfl, hone⟩, hb10⟩
 obtain rfl : b = true := hone.2 HZ8.out.2
 have HB10 := Lib.hid (HB9.out.trans (hb10.mono HB9.out.size))
 clear hone hb10
 go_wp2
 go_ret
 exact ⟨rfl, HB10.out⟩

end Go.Proofs.YtknnhnefbbjcdaaDoor
