/- Layer 20: a block's call. PRINTED by wip/tool/mkkdl.py -/
import Derived.Test.YtahjijdadifkaaaDoorM19
namespace Go.Proofs.YtahjijdadifkaaaDoor
open Go.RowKit
set_option linter.unusedVariables false
set_option linter.unusedSimpArgs false
attribute [local go_sem] ite_max ite_min vite_max vite_min ext_cell ext_frozen extS_cell extS_frozen

theorem okCall_no {vs : List VarS} {s : Stm} {v : VarS} {i : Nat} (hv : varF vs s.name = some v) (hi : i < s.fields.length) (h : okField vs v s i = false) : okCall vs s = false := by
 unfold okCall
 rw [hv]
 simp only
 rw [List.all_eq_false.2 ⟨i, by simpa using hi, by simp [h]⟩, Bool.and_false]
theorem okCall_yes {vs : List VarS} {s : Stm} {v : VarS} (hv : varF vs s.name = some v) (h2 : 2 < v.type) (h : ∀ j, j < s.fields.length → okField vs v s j = true) : okCall vs s = true := by
 unfold okCall
 rw [hv]
 simp only
 rw [List.all_eq_true.2 (fun j hj => h j (by simpa using hj)), decide_eq_true h2]
 rfl
theorem okField_eq {vs : List VarS} {v : VarS} {s : Stm} {i : Nat} {f : ByteArray} {x : Ex} (hf : s.fields[i]? = some f) (hx : s.conds[i]? = some x) :
  okField vs v s i = match kpF v.type f with | none => false | some k => kpIn v.type k && (!((s.fields.take i).any fun g => f.toList == g.toList)) && decide (tyE vs x = some (kpTy v.type k)) := by
 unfold okField
 rw [hf, hx]
 rfl

set_option maxRecDepth 100000 in
set_option maxHeartbeats 8000000 in
theorem kcall_of (vs : List VarS) (s : Stm) (m : SM) (C : Nat) (A : Option Addr) (cap : Nat) (w : World) (hck : CkV w C A cap vs) (ht : Blanks w) (hcs : RowE w m.ca s.conds m.ck) (hfs : RowS w m.fa s.fields m.fk) (hsh : ∀ x ∈ s.conds, ShE x) (hlen : s.fields.length ≤ s.conds.length) :
  Calls Tryd.prog 61 #[ckP C, .agg (StmC s m).toArray] w fun e w' => Oks (okCall vs s) e ∧ Below w.heap.size w w' := by
 have HCS := Lib.hid hcs
 have HFS := Lib.hid hfs
 have HSH := Lib.hid hsh
 have HCK := Lib.hid hck
 have HBT := Lib.hid ht
 have HST : Hid (∀ {W : World} {B : Nat}, W.heap[B]? = some (.cells (StmC s m).toArray 63) → StmV W B (StmC s m) (ExC s.dst m.ta m.tk) (ExC s.src m.va m.vk)) := Lib.hid (fun h => stmV_of h)
 obtain ⟨r, hr⟩ : ∃ r, okCall vs s = r := ⟨_, rfl⟩
 have HR := Lib.hid hr
 obtain ⟨L, hL⟩ : ∃ L, StmC s m = L := ⟨_, rfl⟩
 obtain ⟨nm, hnm⟩ : ∃ o, s.name = o := ⟨_, rfl⟩
 obtain ⟨ln, hln⟩ : ∃ o, s.line = o := ⟨_, rfl⟩
 obtain ⟨n, hn⟩ : ∃ o, s.conds.length = o := ⟨_, rfl⟩
 obtain ⟨nf, hnf⟩ : ∃ o, s.fields.length = o := ⟨_, rfl⟩
 obtain ⟨D, hD⟩ : ∃ D, ExC s.dst m.ta m.tk = D := ⟨_, rfl⟩
 obtain ⟨E, hE⟩ : ∃ D, ExC s.src m.va m.vk = D := ⟨_, rfl⟩
 obtain ⟨cA, hcA⟩ : ∃ o, m.ca = o := ⟨_, rfl⟩
 obtain ⟨ck, hckk⟩ : ∃ o, m.ck = o := ⟨_, rfl⟩
 obtain ⟨fA, hfA⟩ : ∃ o, m.fa = o := ⟨_, rfl⟩
 obtain ⟨fk, hfk⟩ : ∃ o, m.fk = o := ⟨_, rfl⟩
 have HLX : Hid (L[1]? = some (.string nm) ∧ L[14]? = some (.slice cA n ck) ∧ L[16]? = some (.slice fA nf fk) ∧ L[18]? = some (.int .i64 ln)) := Lib.hid (by rw [← hL, ← hnm, ← hln, ← hn, ← hnf, ← hcA, ← hckk, ← hfA, ← hfk]; exact ⟨rfl, rfl, rfl, rfl⟩)
 have HN := Lib.hid hn
 have HNF := Lib.hid hnf
 have HNM := Lib.hid hnm
 rw [hcA, hckk] at HCS
 rw [hfA, hfk] at HFS
 have hc1 := HCS.out.1
 have hc2 := HCS.out.2.1
 have hc3 := HFS.out.1
 have hc4 := HFS.out.2.1
 rw [hn] at hc1 hlen
 rw [hnf] at hc3 hlen
 rw [hE, hD, hL] at HST
 rw [hr, hL]
 clear hck ht hcs hfs hsh hr hL hnm hln hn hnf hD hE hcA hckk hfA hfk
 go_enter Tryd.func61, Tryd.ntmps61
 go_upto_region 1 with (refine wpList_boxTo rfl 63 _ rfl _ rfl _ rfl L.toArray rfl ?_)
 refine wp_name fun W hW => ?_
 obtain ⟨B, hB⟩ : ∃ B, B = w.heap.size := ⟨_, rfl⟩
 have hh : W.heap[B]? = some (.cells L.toArray 63) := by rw [hW.out, hB]; exact heap_alloc_new _ _
 have hbel : Below w.heap.size w W := by rw [hW.out]; exact belowBy
 have HB := Lib.hid hbel
 have HSV := Lib.hid (HST.out hh)
 rw [← hB]
 have HCKW := Lib.hid (HCK.out.below hbel)
 have HBTW := Lib.hid (HBT.out.on hbel)
 have s1 : W.cell? ⟨B, 1, none⟩ = some (.string nm) := HSV.out.cell 1 _ HLX.out.1
 have s18 : W.cell? ⟨B, 18, none⟩ = some (.int .i64 ln) := HSV.out.cell 18 _ HLX.out.2.2.2
 clear hW hh hbel hB HBT HST
 go_wp2_with fail
 refine (kvar_any vs nm ln C A cap W HCKW.out).mono ?_
 rintro e w1 ⟨he, hb1⟩
 have HB1 := Lib.hid (HB.out.trans (hb1.mono HB.out.size))
 have HSV1 := Lib.hid (HSV.out.below hb1)
 have HBT1 := Lib.hid (HBTW.out.on hb1)
 clear hb1 HSV s1 s18 HCKW HBTW HB
 cases hv : varF vs nm with
 | none =>
  rw [hv] at he
  obtain ⟨n9, l9, rfl, h9⟩ := he
  obtain rfl : false = r := by
   rw [← HR.out]
   unfold okCall
   rw [HNM.out, hv]
  exact post_panic rfl ⟨⟨n9, l9, rfl, h9⟩, HB1.out⟩
 | some v =>
  rw [hv] at he
  obtain rfl := he
  have HVF : Hid (varF vs s.name = some v) := Lib.hid (by rw [HNM.out]; exact hv)
  clear hv
  obtain ⟨ty, hty⟩ : ∃ o, v.type = o := ⟨_, rfl⟩
  have HTY := Lib.hid hty
  have HBL : Hid (∀ w, Calls Tryd.prog 62 #[.agg v.cells.toArray] w fun e w' => e = .returned (.bool (decide (2 < v.type))) ∧ Below w.heap.size w w') := Lib.hid (kblock_any v)
  have HPIN : Hid (∀ f w, Blanks w → Calls Tryd.prog 64 #[.agg v.cells.toArray, .string f] w fun e w' => e = .returned (kpV v.type (kpF v.type f)) ∧ Below w.heap.size w w') := Lib.hid (fun f w h => kpin_any v f w h)
  rw [hty] at HBL HPIN
  obtain ⟨M, hM⟩ : ∃ M, v.cells = M := ⟨_, rfl⟩
  have HMS : Hid ((Tryd.prog.info? 47).map (·.size) = some M.length) := Lib.hid (by rw [← hM]; exact var_size8)
  have HM1 : Hid (M.toArray.all (·.oneCell') = true) := Lib.hid (by rw [← hM]; exact var_one8 v)
  have HM8 : Hid (8 = M.toArray.size) := Lib.hid (by rw [← hM]; rfl)
  rw [hM] at HBL HPIN
  simp only [Option.map_some]
  rw [hM]
  clear hM hty
  go_upto_region 2 with (refine wpList_store_new rfl 47 _ _ rfl w1 _ M.toArray rfl rfl rfl HMS.out HM8.out HM1.out ?_)
  refine wp_name fun W2 hW2 => ?_
  obtain ⟨V, hV⟩ : ∃ V, V = w1.heap.size := ⟨_, rfl⟩
  have hh : W2.heap[V]? = some (.cells M.toArray 47) := by rw [hW2.out, hV]; exact heap_alloc_new _ _
  have hb2 : Below w1.heap.size w1 W2 := by rw [hW2.out]; exact belowBy
  have lV : V < W2.heap.size := (Array.getElem?_eq_some_iff.1 hh).1
  rw [← hV]
  have HB2 := Lib.hid (HB1.out.trans (hb2.mono HB1.out.size))
  have HSV2 := Lib.hid (HSV1.out.below hb2)
  have HBT2 := Lib.hid (HBT1.out.on hb2)
  have HMG : Hid (∀ w', Below W2.heap.size W2 w' → w'.rangeAt V 0 M) := Lib.hid (fun w' hb => by
   have := rangeAt_of_heap ((hb.block V lV).trans hh)
   simpa using this)
  have HD : Hid (∀ w', Below W2.heap.size W2 w' → w'.cell? ⟨B, 18, none⟩ = some (.int .i64 ln)) := Lib.hid (fun w' hb => (HSV2.out.below hb).cell 18 _ HLX.out.2.2.2)
  simp only [Act.put]
  clear hW2 hV hh hb2 lV HB1 HSV1 HBT1
  by_cases h2 : 2 < ty
  case neg =>
   have hd : decide (2 < ty) = false := by simp [h2]
   obtain rfl : false = r := by
    rw [← HR.out]
    unfold okCall
    rw [HVF.out]
    simp only
    rw [HTY.out, hd]
    rfl
   rw [hd] at HBL
   clear h2 hd
   refine wp_region_held_drew (S := fun w' => Below W2.heap.size W2 w') (by kernel_rfl) ?_ (fun hHeld => ?_)
   ·exact (Below.refl _ _).drew
   (refine takeH (i := 0) (v := .agg M.toArray) rfl (by kernel_rfl) (by kernel_rfl) (by kernel_rfl) (fun _ _ _ h => h) (yieldsIf_load_mid (by kernel_rfl) 47 _ rfl V 0 rfl M _ (fun _ hb => HMG.out _ hb) Tryd.underlying47 rfl HMS.out) (by assumption) ?_)
   refine tT 2 ?_ rfl ?_ ?_; rotate_left; (focus intros; go_simp; try rfl)
   (refine tT 3 ?_ rfl ?_ ?_; rotate_left; (focus (intro w' hSw; (try dsimp only at hSw); (have g := (HD.out _ hSw)); go_simp; try (with_reducible rfl))); (try simp only [ly]))
   refine oneH (i := 1) (by kernel_rfl) rfl (fun Kc hK => ?_)
   go_simp
   go_at_call 62; refine (HBL.out _).mono ?_; rintro e w3 ⟨rfl, hb3⟩; (have HB3 := Lib.hid (hHeld.trans (hb3.mono hHeld.size))); clear hb3 hHeld
   go_wp2_with fail
   refine hK.out _ _ (HB3.out) (fun hHeld => ?_)
   clear hK Kc
   (try simp only [ly])
   refine oneH (i := 4) (by kernel_rfl) rfl (fun Kc hK => ?_)
   go_simp
   go_at_call 35; refine (need_any false 10 ln _ (by decide)).mono ?_; rintro e w4 ⟨he, rfl⟩; obtain ⟨n9, l9, rfl, h9⟩ := he
   exact post_panic rfl (⟨⟨n9, l9, rfl, h9⟩, HB2.out.trans (HB3.out.mono HB2.out.size)⟩)
  case pos =>
   have hd : decide (2 < ty) = true := by simp [h2]
   have HT2 : Hid (2 < v.type) := Lib.hid (by rw [HTY.out]; exact h2)
   rw [hd] at HBL
   clear h2 hd
   refine wp_region_held_drew (S := fun w' => Below W2.heap.size W2 w') (by kernel_rfl) ?_ (fun hHeld => ?_)
   ·exact (Below.refl _ _).drew
   (refine takeH (i := 0) (v := .agg M.toArray) rfl (by kernel_rfl) (by kernel_rfl) (by kernel_rfl) (fun _ _ _ h => h) (yieldsIf_load_mid (by kernel_rfl) 47 _ rfl V 0 rfl M _ (fun _ hb => HMG.out _ hb) Tryd.underlying47 rfl HMS.out) (by assumption) ?_)
   refine tT 2 ?_ rfl ?_ ?_; rotate_left; (focus intros; go_simp; try rfl)
   (refine tT 3 ?_ rfl ?_ ?_; rotate_left; (focus (intro w' hSw; (try dsimp only at hSw); (have g := (HD.out _ hSw)); go_simp; try (with_reducible rfl))); (try simp only [ly]))
   refine oneH (i := 1) (by kernel_rfl) rfl (fun Kc hK => ?_)
   go_simp
   go_at_call 62; refine (HBL.out _).mono ?_; rintro e w3 ⟨rfl, hb3⟩; (have HB3 := Lib.hid (hHeld.trans (hb3.mono hHeld.size))); clear hb3 hHeld
   go_wp2_with fail
   refine hK.out _ _ (HB3.out) (fun hHeld => ?_)
   clear hK Kc
   (try simp only [ly])
   refine oneH (i := 4) (by kernel_rfl) rfl (fun Kc hK => ?_)
   go_simp
   go_at_call 35; refine (need_any true 10 ln _ (by decide)).mono ?_; rintro e w4 ⟨rfl, rfl⟩
   go_wp2_with fail
   refine hK.out _ _ (HB3.out) (fun hHeld => ?_)
   clear hK Kc
   (try simp only [ly])
   refine wpAnyH_done (by kernel_rfl) ?_ _
   (try simp only [ly])
   have HSV4 := Lib.hid (HSV2.out.below HB3.out)
   have HB4 := Lib.hid (HB2.out.trans (HB3.out.mono HB2.out.size))
   have HBT4 := Lib.hid (HBT2.out.on HB3.out)
   have HMG4 : Hid (∀ w', Below w4.heap.size w4 w' → w'.rangeAt V 0 M) := Lib.hid (fun w' hb => HMG.out _ (HB3.out.trans (hb.mono HB3.out.size)))
   have d16 : w4.cell? ⟨B, 16, none⟩ = some (.slice fA nf fk) := HSV4.out.cell 16 _ HLX.out.2.2.1
   clear HSV2 HB2 HBT2 HMG HD HBL HB3
   go_wp2_with fail
   clear d16
   go_loopw [23] (fun u wr => ∃ (i : Nat), i ≤ nf ∧ u = .int .i64 i ∧ Hid (∀ j, j < i → okField vs v s j = true) ∧ Below w4.heap.size w4 wr) (fun u _ => nf - (intOf u).toNat)
   case atStart => exact ⟨0, by omega, rfl, Lib.hid (fun j hj => by omega), Below.refl _ _⟩
   case round =>
    obtain ⟨i, hi, rfl, HAL, hbr⟩ := hrel
    have HBI := Lib.hid hbr
    have HBr := Lib.hid (HB4.out.trans (hbr.mono HB4.out.size))
    by_cases hlt : i < nf
    ·obtain ⟨bf, of, f, cs, rfl, hbf, hf, rfl, hcf⟩ := RowOf.at (HFS.out.below HBr.out) (i := i) (by rw [HNF.out]; exact hlt)
     have HFA : Hid (∀ W, Below wr.heap.size wr W → ∀ k g, (s.fields.take i)[k]? = some g → W.cell? ⟨bf, of + k, none⟩ = some (.string g)) := Lib.hid (fun W hW k g hk => by
      have hki : k < s.fields.length := by
       have := (List.getElem?_eq_some_iff.1 hk).1
       rw [List.length_take] at this
       omega
      obtain ⟨b', o', x', cs', hA', hb', hx', rfl, hc'⟩ := RowOf.at ((HFS.out.below HBr.out).below hW) (i := k) hki
      cases hA'
      have h1 := hc' 0 (by omega)
      rw [Nat.mul_one, Nat.add_zero] at h1
      rw [List.getElem?_take] at hk
      split at hk
      ·rw [hk] at hx'
       cases hx'
       exact h1
      ·cases hk)
     obtain ⟨b2, o2, y, As, ks, hA2, hbl, hy, hat, hsub, hrng⟩ := RowE.at (HCS.out.below HBr.out) (i := i) (by rw [HN.out]; omega)
     have hib : (0 : Int) ≤ (i : Int) ∧ (i : Int) < (nf : Int) := by omega
     have hic : (i : Int) < (n : Int) := by omega
     have hil : (i : Int) ≤ (fk : Int) := by omega
     have c0 : wr.cell? ⟨bf, of + i, none⟩ = some (.string f) := by
      have h1 := hcf 0 (by omega)
      rw [Nat.mul_one, Nat.add_zero] at h1
      exact h1
     have HOF : Hid (okField vs v s i = _) := Lib.hid (okField_eq (vs := vs) (v := v) hf hy)
     have HCKr := Lib.hid (HCK.out.below HBr.out)
     have HBTr := Lib.hid (HBT4.out.on hbr)
     have HEX : Hid (∀ W, Below wr.heap.size wr W → Calls Tryd.prog 21 #[ckP C, .agg (ExC y As ks).toArray] W fun e w' => TyRes (tyE vs y) e ∧ Below W.heap.size W w') := Lib.hid (kexpr_any (HSH.out y (List.mem_of_getElem? hy)) hat HCKr.out HBTr.out)
     have HRG : Hid (∀ W, Below wr.heap.size wr W → W.rangeAt b2 (o2 + i * 6) (ExC y As ks)) := Lib.hid (fun W hW => range_below hrng hW)
     obtain ⟨ly, hly⟩ : ∃ l, y.line = l := ⟨_, rfl⟩
     obtain ⟨M2, hM2⟩ : ∃ M, ExC y As ks = M := ⟨_, rfl⟩
     have HMS2 : Hid ((Tryd.prog.info? 28).map (·.size) = some M2.length) := Lib.hid (by rw [← hM2]; exact expr_size)
     have HM5 : Hid (M2[5]? = some (.int .i64 ly)) := Lib.hid (by rw [← hM2, ← hly]; rfl)
     rw [hM2] at HEX HRG
     subst hA2
     obtain ⟨q, hq⟩ : ∃ q, tyE vs y = q := ⟨_, rfl⟩
     rw [hq] at HEX HOF
     have HRGV := Lib.hid (HMG4.out _ hbr)
     have HSVr := Lib.hid (HSV4.out.below hbr)
     have HHF := Lib.hid hf
     have lbf := hbf
     clear hf hcf hy hat hsub hrng hly hM2 hq hbr HCKr
     rw [HTY.out] at HOF
     go_wp2_with (refine wpList_load_mid rfl 47 _ rfl V 0 rfl M _ HRGV.out Tryd.underlying47 rfl HMS.out ?_)
     refine (HPIN.out f _ HBTr.out).mono ?_
     rintro e w5 ⟨rfl, hb5⟩
     have hz5 := hb5.size
     have HB5 := Lib.hid hb5
     clear hb5 c0 HRGV
     cases hp : kpF ty f with
     | none =>
      rw [hp] at HOF
      obtain rfl : false = r := by rw [← HR.out, okCall_no HVF.out (by rw [HNF.out]; exact hlt) HOF.out]
      simp only [kpV]
      have d18 : w5.cell? ⟨B, 18, none⟩ = some (.int .i64 ln) := (HSVr.out.below HB5.out).cell 18 _ HLX.out.2.2.2
      have lB5 : B < w5.heap.size := cell_lt d18
      have HBX : Hid (Below w.heap.size w w5) := Lib.hid (HBr.out.trans (HB5.out.mono HBr.out.size))
      clear hp
      go_wp2_with fail
      refine (need_any false 9 ln _ (by decide)).mono ?_
      rintro e w6 ⟨he, rfl⟩
      obtain ⟨n9, l9, rfl, h9⟩ := he
      have hbx := HBX.out
      have hsz := hbx.size
      exact ⟨rfl, ⟨⟨n9, l9, rfl, h9⟩, by exact belowBy⟩⟩
     | some k =>
      rw [hp] at HOF
      simp only [kpV]
      obtain ⟨s0, hs0⟩ : ∃ x, kpNm ty k = x := ⟨_, rfl⟩
      obtain ⟨s1, hs1⟩ : ∃ x, kpTy ty k = x := ⟨_, rfl⟩
      obtain ⟨s2, hs2⟩ : ∃ x, kpIn ty k = x := ⟨_, rfl⟩
      rw [hs0, hs1, hs2]
      have HOF2 : Hid (okField vs v s i = (s2 && (!((s.fields.take i).any fun g => f.toList == g.toList)) && decide (q = some s1))) := Lib.hid (by rw [HOF.out]; simp only [hs1, hs2])
      clear hp hs0 hs1 hs2 HOF
      go_upto_region 7 with (fail)
      refine wp_name fun W7 hW7 => ?_
      obtain ⟨P, hP⟩ : ∃ P, P = w5.heap.size := ⟨_, rfl⟩
      have hh : W7.heap[P]? = some (.cells #[.string s0, .int .i64 s1, .bool s2] 106) := by
       rw [hW7.out, hP]
       first | exact heap_alloc_new _ _ | (simp [World.setCell, World.alloc]; done)
      have hb7 : Below w5.heap.size w5 W7 := by rw [hW7.out]; exact belowBy
      rw [← hP]
      have HBW := Lib.hid (HB5.out.trans (hb7.mono HB5.out.size))
      have HSV7 := Lib.hid (HSVr.out.below HBW.out)
      have p1 : W7.cell? ⟨P, 1, none⟩ = some (.int .i64 s1) := heap_cell 1 _ hh rfl
      have p2 : W7.cell? ⟨P, 2, none⟩ = some (.bool s2) := heap_cell 2 _ hh rfl
      have lP : P < W7.heap.size := cell_lt p1
      have d18 : W7.cell? ⟨B, 18, none⟩ = some (.int .i64 ln) := HSV7.out.cell 18 _ HLX.out.2.2.2
      have HB7 : Hid (Below w.heap.size w W7) := Lib.hid (HBr.out.trans (HBW.out.mono HBr.out.size))
      have HBI7 : Hid (Below w4.heap.size w4 W7) := Lib.hid (HBI.out.trans (HBW.out.mono HBI.out.size))
      clear hW7 hh hb7 hP hz5 HB5
      cases s2
      ·obtain rfl : false = r := by rw [← HR.out, okCall_no HVF.out (by rw [HNF.out]; exact hlt) (by rw [HOF2.out]; rfl)]
       go_wp2_with fail
       refine (need_any false 9 ln _ (by decide)).mono ?_
       rintro e w8 ⟨he, rfl⟩
       obtain ⟨n9, l9, rfl, h9⟩ := he
       exact ⟨rfl, ⟨⟨n9, l9, rfl, h9⟩, HB7.out⟩⟩
      ·go_wp2_with fail
       refine (need_any true 9 ln _ (by decide)).mono ?_
       rintro e w7 ⟨rfl, rfl⟩
       have HC7 : Hid (∀ w', Below w7.heap.size w7 w' → w'.cell? ⟨B, 14, none⟩ = some (.slice (some ⟨b2, o2, none⟩) n ck) ∧ w'.cell? ⟨B, 16, none⟩ = some (.slice (some ⟨bf, of, none⟩) nf fk) ∧ w'.cell? ⟨B, 18, none⟩ = some (.int .i64 ln) ∧ w'.cell? ⟨P, 1, none⟩ = some (.int .i64 s1)) := Lib.hid (fun w' hb => by
        have := HSV7.out.below hb
        exact ⟨this.cell 14 _ HLX.out.2.1, this.cell 16 _ HLX.out.2.2.1, this.cell 18 _ HLX.out.2.2.2, (hb.cell (p := ⟨P, 1, none⟩) lP).trans p1⟩)
       have HCO : Hid (∀ W, Below w7.heap.size w7 W → Calls Tryd.prog 72 #[.slice (some ⟨bf, of, none⟩) i fk, .string f] W fun e w' => e = .returned (.bool ((s.fields.take i).any fun g => f.toList == g.toList)) ∧ Below W.heap.size W w') := Lib.hid (fun W hW => by
        have hWr := HBW.out.trans (hW.mono HBW.out.size)
        have hlt' : (s.fields.take i).length = i := by rw [List.length_take, HNF.out]; omega
        have := khas_str (s.fields.take i) f bf of fk W (by rw [hlt']; omega) hc4 (Nat.lt_of_lt_of_le lbf hWr.size) (HFA.out W hWr)
        rw [hlt'] at this
        exact this)
       clear p1 p2 d18
       go_wp2_with fail
       cases hct : ((s.fields.take i).any fun g => f.toList == g.toList)
       case true =>
        obtain rfl : false = r := by rw [← HR.out, okCall_no HVF.out (by rw [HNF.out]; exact hlt) (by rw [HOF2.out, hct]; rfl)]
        clear HOF2
        refine wp_region_held_drew (S := fun w' => Below w7.heap.size w7 w') (by kernel_rfl) ?_ (fun hHeld => ?_)
        ·exact (Below.refl _ _).drew
        refine tT 0 ?_ rfl ?_ ?_; rotate_left; (focus intros; go_simp; try rfl)
        (refine tT 1 ?_ rfl ?_ ?_; rotate_left; (focus (intro w' hSw; (try dsimp only at hSw); (have g := (HC7.out _ hSw).2.1); go_simp; try (with_reducible rfl))))
        refine tT 2 ?_ rfl ?_ ?_; rotate_left; (focus intros; go_simp; try rfl); (try simp only [ly])
        refine tT 3 ?_ rfl ?_ ?_; rotate_left; (focus intros; go_simp; try rfl)
        refine tT 4 ?_ rfl ?_ ?_; rotate_left; (focus intros; go_simp; try rfl)
        refine tT 7 ?_ rfl ?_ ?_; rotate_left; (focus intros; go_simp; try rfl); (try simp only [ly])
        (refine tT 8 ?_ rfl ?_ ?_; rotate_left; (focus (intro w' hSw; (try dsimp only at hSw); (have g := (HC7.out _ hSw).2.2.1); go_simp; try (with_reducible rfl))); (try simp only [ly]))
        refine oneH (i := 5) (by kernel_rfl) rfl (fun Kc hK => ?_)
        go_simp
        go_at_call 72; refine (HCO.out _ hHeld).mono ?_; rintro e w8 ⟨rfl, hb8⟩; (have HB8 := Lib.hid (hHeld.trans (hb8.mono hHeld.size))); (rw [hct]); clear hb8 hHeld
        go_wp2_with fail
        refine hK.out _ _ (HB8.out) (fun hHeld => ?_)
        clear hK Kc
        (try simp only [ly])
        refine tT 6 ?_ rfl ?_ ?_; rotate_left; (focus intros; go_simp; try rfl); (try simp only [ly])
        refine oneH (i := 9) (by kernel_rfl) rfl (fun Kc hK => ?_)
        go_simp
        go_at_call 35; refine (need_any false 11 ln _ (by decide)).mono ?_; rintro e w9 ⟨he, rfl⟩; obtain ⟨n9, l9, rfl, h9⟩ := he
        exact ⟨rfl, ⟨⟨n9, l9, rfl, h9⟩, HB7.out.trans (HB8.out.mono HB7.out.size)⟩⟩
       case false =>
        have HOF3 : Hid (okField vs v s i = decide (q = some s1)) := Lib.hid (by rw [HOF2.out, hct]; rfl)
        clear HOF2
        refine wp_region_held_drew (S := fun w' => Below w7.heap.size w7 w') (by kernel_rfl) ?_ (fun hHeld => ?_)
        ·exact (Below.refl _ _).drew
        refine tT 0 ?_ rfl ?_ ?_; rotate_left; (focus intros; go_simp; try rfl)
        (refine tT 1 ?_ rfl ?_ ?_; rotate_left; (focus (intro w' hSw; (try dsimp only at hSw); (have g := (HC7.out _ hSw).2.1); go_simp; try (with_reducible rfl))))
        refine tT 2 ?_ rfl ?_ ?_; rotate_left; (focus intros; go_simp; try rfl); (try simp only [ly])
        refine tT 3 ?_ rfl ?_ ?_; rotate_left; (focus intros; go_simp; try rfl)
        refine tT 4 ?_ rfl ?_ ?_; rotate_left; (focus intros; go_simp; try rfl)
        refine tT 7 ?_ rfl ?_ ?_; rotate_left; (focus intros; go_simp; try rfl); (try simp only [ly])
        (refine tT 8 ?_ rfl ?_ ?_; rotate_left; (focus (intro w' hSw; (try dsimp only at hSw); (have g := (HC7.out _ hSw).2.2.1); go_simp; try (with_reducible rfl))); (try simp only [ly]))
        refine oneH (i := 5) (by kernel_rfl) rfl (fun Kc hK => ?_)
        go_simp
        go_at_call 72; refine (HCO.out _ hHeld).mono ?_; rintro e w8 ⟨rfl, hb8⟩; (have HB8 := Lib.hid (hHeld.trans (hb8.mono hHeld.size))); (rw [hct]); clear hb8 hHeld
        go_wp2_with fail
        refine hK.out _ _ (HB8.out) (fun hHeld => ?_)
        clear hK Kc
        (try simp only [ly])
        refine tT 6 ?_ rfl ?_ ?_; rotate_left; (focus intros; go_simp; try rfl); (try simp only [ly])
        refine oneH (i := 9) (by kernel_rfl) rfl (fun Kc hK => ?_)
        go_simp
        go_at_call 35; refine (need_any true 11 ln _ (by decide)).mono ?_; rintro e w9 ⟨rfl, rfl⟩
        go_wp2_with fail
        refine hK.out _ _ (HB8.out) (fun hHeld => ?_)
        clear hK Kc
        (try simp only [ly])
        refine wpAnyH_done (by kernel_rfl) ?_ _
        (try simp only [ly])
        have HB9 : Hid (Below w.heap.size w w9) := Lib.hid (HB7.out.trans (HB8.out.mono HB7.out.size))
        have HBI9 : Hid (Below w4.heap.size w4 w9) := Lib.hid (HBI7.out.trans (HB8.out.mono HBI7.out.size))
        have HR9 : Hid (Below wr.heap.size wr w9) := Lib.hid (HBW.out.trans (HB8.out.mono HBW.out.size))
        have HRG9 : Hid (∀ W, Below w9.heap.size w9 W → W.rangeAt b2 (o2 + i * 6) M2) := Lib.hid (fun W hW => HRG.out W (HR9.out.trans (hW.mono HR9.out.size)))
        have HEX9 : Hid (∀ W, Below w9.heap.size w9 W → Calls Tryd.prog 21 #[ckP C, .agg M2.toArray] W fun e w' => TyRes q e ∧ Below W.heap.size W w') := Lib.hid (fun W hW => HEX.out W (HR9.out.trans (hW.mono HR9.out.size)))
        have HC9 : Hid (∀ w', Below w9.heap.size w9 w' → w'.cell? ⟨B, 14, none⟩ = some (.slice (some ⟨b2, o2, none⟩) n ck) ∧ w'.cell? ⟨P, 1, none⟩ = some (.int .i64 s1) ∧ w'.cell? ⟨b2, o2 + i * 6 + 5, none⟩ = some (.int .i64 ly)) := Lib.hid (fun w' hb => by
         have := HC7.out w' (HB8.out.trans (hb.mono HB8.out.size))
         exact ⟨this.1, this.2.2.2, HRG9.out w' hb 5 _ HM5.out⟩)
        clear hct HRG HEX HC7 HCO HB8 HB7 HBI7 HBW HR9
        have HRG := HRG9
        have HEX := HEX9
        clear HRG9 HEX9
        go_wp2_with fail
        cases q with
        | none =>
         obtain rfl : false = r := by rw [← HR.out, okCall_no HVF.out (by rw [HNF.out]; exact hlt) (by rw [HOF3.out]; rfl)]
         refine wp_region_held_drew (S := fun w' => Below w9.heap.size w9 w') (by kernel_rfl) ?_ (fun hHeld => ?_)
         ·exact (Below.refl _ _).drew
         refine tT 0 ?_ rfl ?_ ?_; rotate_left; (focus intros; go_simp; try rfl)
         refine tT 1 ?_ rfl ?_ ?_; rotate_left; (focus intros; go_simp; try rfl)
         (refine tT 2 ?_ rfl ?_ ?_; rotate_left; (focus (intro w' hSw; (try dsimp only at hSw); (have g := (HC9.out _ hSw).1); go_simp; try (with_reducible rfl))); (try simp only [ly]))
         refine tT 3 ?_ rfl ?_ ?_; rotate_left; (focus intros; go_simp; try rfl)
         refine tT 4 ?_ rfl ?_ ?_; rotate_left; (focus intros; go_simp; try rfl)
         (refine takeH (i := 5) (v := .agg M2.toArray) rfl (by kernel_rfl) (by kernel_rfl) (by kernel_rfl) (fun _ _ _ h => h) (yieldsIf_load_mid (by kernel_rfl) 28 _ rfl b2 (o2 + i * 6) rfl M2 _ (fun _ hb => HRG.out _ hb) Tryd.underlying28 rfl HMS2.out) (by assumption) ?_; (try simp only [ly]))
         refine tT 7 ?_ rfl ?_ ?_; rotate_left; (focus intros; go_simp; try rfl)
         (refine tT 8 ?_ rfl ?_ ?_; rotate_left; (focus (intro w' hSw; (try dsimp only at hSw); (have g := (HC9.out _ hSw).2.1); go_simp; try (with_reducible rfl))))
         refine tT 10 ?_ rfl ?_ ?_; rotate_left; (focus intros; go_simp; try rfl); (try simp only [ly])
         (refine tT 11 ?_ rfl ?_ ?_; rotate_left; (focus (intro w' hSw; (try dsimp only at hSw); (have g := (HC9.out _ hSw).1); go_simp; try (with_reducible rfl))))
         refine tT 12 ?_ rfl ?_ ?_; rotate_left; (focus intros; go_simp; try rfl)
         refine tT 13 ?_ rfl ?_ ?_; rotate_left; (focus intros; go_simp; try rfl); (try simp only [ly])
         refine tT 14 ?_ rfl ?_ ?_; rotate_left; (focus intros; go_simp; try rfl)
         (refine tT 15 ?_ rfl ?_ ?_; rotate_left; (focus (intro w' hSw; (try dsimp only at hSw); (have g := (HC9.out _ hSw).2.2); go_simp; try (with_reducible rfl))); (try simp only [ly]))
         refine oneH (i := 6) (by kernel_rfl) rfl (fun Kc hK => ?_)
         go_simp
         go_at_call 21; refine (HEX.out _ hHeld).mono ?_; rintro e w10 ⟨he, hb10⟩; obtain ⟨n9, l9, rfl, h9⟩ := he
         exact ⟨rfl, ⟨⟨n9, l9, rfl, h9⟩, HB9.out.trans ((hHeld.trans (hb10.mono hHeld.size)).mono HB9.out.size)⟩⟩
        | some u =>
         by_cases hu : u = s1
         case neg =>
          have hq : (u == s1) = false := by simp [hu]
          obtain rfl : false = r := by rw [← HR.out, okCall_no HVF.out (by rw [HNF.out]; exact hlt) (by rw [HOF3.out]; simp [hu])]
          refine wp_region_held_drew (S := fun w' => Below w9.heap.size w9 w') (by kernel_rfl) ?_ (fun hHeld => ?_)
          ·exact (Below.refl _ _).drew
          refine tT 0 ?_ rfl ?_ ?_; rotate_left; (focus intros; go_simp; try rfl)
          refine tT 1 ?_ rfl ?_ ?_; rotate_left; (focus intros; go_simp; try rfl)
          (refine tT 2 ?_ rfl ?_ ?_; rotate_left; (focus (intro w' hSw; (try dsimp only at hSw); (have g := (HC9.out _ hSw).1); go_simp; try (with_reducible rfl))); (try simp only [ly]))
          refine tT 3 ?_ rfl ?_ ?_; rotate_left; (focus intros; go_simp; try rfl)
          refine tT 4 ?_ rfl ?_ ?_; rotate_left; (focus intros; go_simp; try rfl)
          (refine takeH (i := 5) (v := .agg M2.toArray) rfl (by kernel_rfl) (by kernel_rfl) (by kernel_rfl) (fun _ _ _ h => h) (yieldsIf_load_mid (by kernel_rfl) 28 _ rfl b2 (o2 + i * 6) rfl M2 _ (fun _ hb => HRG.out _ hb) Tryd.underlying28 rfl HMS2.out) (by assumption) ?_; (try simp only [ly]))
          refine tT 7 ?_ rfl ?_ ?_; rotate_left; (focus intros; go_simp; try rfl)
          (refine tT 8 ?_ rfl ?_ ?_; rotate_left; (focus (intro w' hSw; (try dsimp only at hSw); (have g := (HC9.out _ hSw).2.1); go_simp; try (with_reducible rfl))))
          refine tT 10 ?_ rfl ?_ ?_; rotate_left; (focus intros; go_simp; try rfl); (try simp only [ly])
          (refine tT 11 ?_ rfl ?_ ?_; rotate_left; (focus (intro w' hSw; (try dsimp only at hSw); (have g := (HC9.out _ hSw).1); go_simp; try (with_reducible rfl))))
          refine tT 12 ?_ rfl ?_ ?_; rotate_left; (focus intros; go_simp; try rfl)
          refine tT 13 ?_ rfl ?_ ?_; rotate_left; (focus intros; go_simp; try rfl); (try simp only [ly])
          refine tT 14 ?_ rfl ?_ ?_; rotate_left; (focus intros; go_simp; try rfl)
          (refine tT 15 ?_ rfl ?_ ?_; rotate_left; (focus (intro w' hSw; (try dsimp only at hSw); (have g := (HC9.out _ hSw).2.2); go_simp; try (with_reducible rfl))); (try simp only [ly]))
          refine oneH (i := 6) (by kernel_rfl) rfl (fun Kc hK => ?_)
          go_simp
          go_at_call 21; refine (HEX.out _ hHeld).mono ?_; rintro e w10 ⟨he, hb10⟩; obtain rfl := he; (have HB10 := Lib.hid (hHeld.trans (hb10.mono hHeld.size))); clear hb10 hHeld
          go_wp2_with fail
          refine hK.out _ _ (HB10.out) (fun hHeld => ?_)
          clear hK Kc
          (try simp only [ly])
          refine tT 9 ?_ rfl ?_ ?_; rotate_left; (focus intros; go_simp; try rfl); (try simp only [ly])
          refine oneH (i := 16) (by kernel_rfl) rfl (fun Kc hK => ?_)
          go_simp
          go_at_call 35; refine (need_any false 10 _ _ (by decide)).mono ?_; rintro e w11 ⟨he, rfl⟩; obtain ⟨n9, l9, rfl, h9⟩ := he
          exact ⟨rfl, ⟨⟨n9, l9, rfl, h9⟩, HB9.out.trans (HB10.out.mono HB9.out.size)⟩⟩
         case pos =>
          subst hu
          have HOK : Hid (okField vs v s i = true) := Lib.hid (by rw [HOF3.out]; simp)
          clear HOF3
          refine wp_region_held_drew (S := fun w' => Below w9.heap.size w9 w') (by kernel_rfl) ?_ (fun hHeld => ?_)
          ·exact (Below.refl _ _).drew
          refine tT 0 ?_ rfl ?_ ?_; rotate_left; (focus intros; go_simp; try rfl)
          refine tT 1 ?_ rfl ?_ ?_; rotate_left; (focus intros; go_simp; try rfl)
          (refine tT 2 ?_ rfl ?_ ?_; rotate_left; (focus (intro w' hSw; (try dsimp only at hSw); (have g := (HC9.out _ hSw).1); go_simp; try (with_reducible rfl))); (try simp only [ly]))
          refine tT 3 ?_ rfl ?_ ?_; rotate_left; (focus intros; go_simp; try rfl)
          refine tT 4 ?_ rfl ?_ ?_; rotate_left; (focus intros; go_simp; try rfl)
          (refine takeH (i := 5) (v := .agg M2.toArray) rfl (by kernel_rfl) (by kernel_rfl) (by kernel_rfl) (fun _ _ _ h => h) (yieldsIf_load_mid (by kernel_rfl) 28 _ rfl b2 (o2 + i * 6) rfl M2 _ (fun _ hb => HRG.out _ hb) Tryd.underlying28 rfl HMS2.out) (by assumption) ?_; (try simp only [ly]))
          refine tT 7 ?_ rfl ?_ ?_; rotate_left; (focus intros; go_simp; try rfl)
          (refine tT 8 ?_ rfl ?_ ?_; rotate_left; (focus (intro w' hSw; (try dsimp only at hSw); (have g := (HC9.out _ hSw).2.1); go_simp; try (with_reducible rfl))))
          refine tT 10 ?_ rfl ?_ ?_; rotate_left; (focus intros; go_simp; try rfl); (try simp only [ly])
          (refine tT 11 ?_ rfl ?_ ?_; rotate_left; (focus (intro w' hSw; (try dsimp only at hSw); (have g := (HC9.out _ hSw).1); go_simp; try (with_reducible rfl))))
          refine tT 12 ?_ rfl ?_ ?_; rotate_left; (focus intros; go_simp; try rfl)
          refine tT 13 ?_ rfl ?_ ?_; rotate_left; (focus intros; go_simp; try rfl); (try simp only [ly])
          refine tT 14 ?_ rfl ?_ ?_; rotate_left; (focus intros; go_simp; try rfl)
          (refine tT 15 ?_ rfl ?_ ?_; rotate_left; (focus (intro w' hSw; (try dsimp only at hSw); (have g := (HC9.out _ hSw).2.2); go_simp; try (with_reducible rfl))); (try simp only [ly]))
          refine oneH (i := 6) (by kernel_rfl) rfl (fun Kc hK => ?_)
          go_simp
          go_at_call 21; refine (HEX.out _ hHeld).mono ?_; rintro e w10 ⟨he, hb10⟩; obtain rfl := he; (have HB10 := Lib.hid (hHeld.trans (hb10.mono hHeld.size))); clear hb10 hHeld
          go_wp2_with fail
          refine hK.out _ _ (HB10.out) (fun hHeld => ?_)
          clear hK Kc
          (try simp only [ly])
          refine tT 9 ?_ rfl ?_ ?_; rotate_left; (focus intros; go_simp; try rfl); (try simp only [ly])
          refine oneH (i := 16) (by kernel_rfl) rfl (fun Kc hK => ?_)
          go_simp
          go_at_call 35; refine (need_any true 10 _ _ (by decide)).mono ?_; rintro e w11 ⟨rfl, rfl⟩
          go_wp2_with fail
          refine hK.out _ _ (HB10.out) (fun hHeld => ?_)
          clear hK Kc
          (try simp only [ly])
          refine wpAnyH_done (by kernel_rfl) ?_ _
          (try simp only [ly])
          have HBE : Hid (Below w4.heap.size w4 _) := Lib.hid (HBI9.out.trans (HB10.out.mono HBI9.out.size))
          go_wp2
          go_roundw
          case rel =>
           refine ⟨i + 1, by omega, by go_num, Lib.hid (fun j hj => ?_), HBE.out⟩
           rcases Nat.lt_succ_iff_lt_or_eq.1 hj with h | rfl
           ·exact HAL.out j h
           ·exact HOK.out
          case measure => simp [intOf]; omega
    ·obtain rfl : i = nf := by omega
     obtain rfl : true = r := by rw [← HR.out, okCall_yes HVF.out HT2.out (fun j hj => HAL.out j (by rw [← HNF.out]; exact hj))]
     go_wp2
     refine bodyPost_end (v := .tuple #[]) ?_ rfl ⟨rfl, HBr.out⟩
     simp [results, Tryd.results61]

end Go.Proofs.YtahjijdadifkaaaDoor
