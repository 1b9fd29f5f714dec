/- Layer 15: the generator and the window. PRINTED by wip/tool/mksteps15.py -/
import Derived.Test.YthhfnageadckkaaGreatAxQ4
import Derived.Deep.DeepCutAuto
set_option maxHeartbeats 4000000
namespace Go.Proofs.YthhfnageadckkaaGreat
open Go.RowKit
set_option linter.unusedVariables false
set_option linter.unusedSimpArgs false
attribute [local go_sem] ite_max ite_min vite_max vite_min ext_cell ext_frozen

theorem onw_take {w : World} {zs : List Int} {n g k : Nat} (h : OnW w zs n g k) : OnW w (zs.take n) n g k :=
 ⟨h.nk, h.km, h.gl, fun i hi => by rw [List.getElem?_take, if_pos hi]; exact h.cs i hi⟩
theorem apush_at (zs : List Int) (sv : Value) (pos : Int) (w : World) (hs : SmV w zs sv) (hr : rightW zs zs.length = true) (hp : plB pos = true) :
  Calls Tryz.prog 72 #[.agg #[sv], .int .i64 pos] w fun e w' => ∃ g k, e = .returned (.agg #[.slice (some ⟨g, 0, none⟩) zs.length k]) ∧ w.heap.size ≤ g ∧ Below w.heap.size w w' ∧ SmV w' ((pos :: zs).take zs.length) (.slice (some ⟨g, 0, none⟩) zs.length k) := by
 obtain ⟨b, off, c, rfl, h1, h2, h3, h4⟩ := hs.at (by have := rightW_yes hr; omega)
 refine (sm_push_at zs b off zs.length c pos w h1 h2 h3 h4 hr hp).mono ?_
 rintro e w' ⟨v, rfl, hw, hb⟩
 obtain ⟨g, k, rfl, hB, ho⟩ := OnW.of_win hw
 exact ⟨g, k, rfl, hB, hb, SmV.of_on (onw_take ho) (by simp)⟩
theorem want_kept (a : AX) (i : INS) : (wantX a i).a.g = a.g ∧ (wantX a i).a.ns = a.ns ∧ (wantX a i).a.ws = a.ws ∧ bndX (wantX a i).a = bndX a := by
 unfold wantX
 dsimp only
 repeat' split
 all_goals exact ⟨rfl, rfl, rfl, rfl⟩
theorem want_by {a : AX} {i : INS} (h : (wantX a i).by_ = true) : (underX a).ok = true := by
 unfold wantX at h
 split at h
 ·cases h
 ·split at h
  ·cases h
  ·rename_i h2
   simpa using h2

set_option maxRecDepth 100000 in
theorem asteps_a (s : WS) (K : Nat) (rv : Value) (W : World) (h : WK W K s rv) (hst : s.a.st = 0) :
  Calls Tryz.prog 34 #[.pointer (some ⟨K, 0, none⟩)] W fun x w' => x = .returned (.bool (stepsX s.a s.i).passed) ∧ WK w' K { s with a := (stepsX s.a s.i).a } rv ∧ Turn K rv rv W w' := by
 have HEQ : Hid (stepsX s.a s.i = ⟨pushX s.a s.a.g.p, false⟩) := Lib.hid (by unfold stepsX; rw [if_pos hst])
 obtain ⟨sv, nv, wv, cv, hp⟩ := h
 have HP0 := Lib.hid hp
 have HT0 := Lib.hid (Turn.refl K rv W)
 have us0 : (s.a.st == 0) = true := by simp [hst]
 clear hst
 have c_st := hp.cell 0 _ rfl
 have lK := hp.lt
 have fK := hp.froz
 clear hp
 go_enter Tryz.func34, Tryz.ntmps34
 go_upto_region 2 with (fail)
 clear c_st lK fK
 have HPL : Hid (plB s.a.g.p = true) := Lib.hid (plB_of HP0.out.inv.pos)
 obtain ⟨nl, hnl⟩ : ∃ n, s.a.sm.length = n := ⟨_, rfl⟩
 have HNL := Lib.hid hnl
 have HPU : Hid (∀ w', Below W.heap.size W w' → Calls Tryz.prog 72 #[.agg #[sv], .int .i64 s.a.g.p] w' fun e w'' => ∃ g k, e = .returned (.agg #[.slice (some ⟨g, 0, none⟩) nl k]) ∧ w'.heap.size ≤ g ∧ Below w'.heap.size w' w'' ∧ SmV w'' ((s.a.g.p :: s.a.sm).take nl) (.slice (some ⟨g, 0, none⟩) nl k)) := Lib.hid (fun w' hb => by
  rw [← hnl]
  exact apush_at s.a.sm sv _ w' (HP0.out.sm.below hb) HP0.out.inv.smr HPL.out)
 clear hnl
 have c10 : W.cell? ⟨K, 10, none⟩ = some (.int .i64 s.a.g.p) := HP0.out.cell 10 _ rfl
 have c12 : W.cell? ⟨K, 12, none⟩ = some sv := HP0.out.cell 12 _ rfl
 have lKp := HP0.out.lt
 refine wp_region_held_drew (S := fun w' => Buts (fun b => b = K) W w') (by kernel_rfl) ?_ (fun hHeld => ?_)
 ·exact (Buts.refl _ _).drew
 refine tT 0 ?_ rfl ?_ ?_; rotate_left; (focus intros; go_simp; try rfl)
 refine tT 1 ?_ rfl ?_ ?_; rotate_left; (focus intros; go_simp; try rfl)
 refine tT 2 ?_ rfl ?_ ?_; rotate_left; (focus intros; go_simp; try rfl); (try simp only [ly])
 refine tT 3 ?_ rfl ?_ ?_; rotate_left; (focus intros; go_simp; try rfl)
 refine tT 4 ?_ rfl ?_ ?_; rotate_left; (focus intros; go_simp; try rfl)
 refine tT 6 ?_ rfl ?_ ?_; rotate_left; (focus intros; go_simp; try rfl); (try simp only [ly])
 refine tT 7 ?_ rfl ?_ ?_; rotate_left; (focus intros; go_simp; try rfl)
 refine tT 8 ?_ rfl ?_ ?_; rotate_left; (focus intros; go_simp; try rfl)
 refine tT 9 ?_ rfl ?_ ?_; rotate_left; (focus intros; go_simp; try rfl); (try simp only [ly])
 refine tT 10 ?_ rfl ?_ ?_; rotate_left; (focus intros; go_simp; try rfl); (try simp only [ly])
 refine twoX (i := 5) (j := 11) (by kernel_rfl) rfl rfl (fun Kc hK => ?pa) (fun Kc hK => ?pb)
 case' pa =>
  go_simp
  refine hK.out _ _ hHeld (fun hHeld => ?_)
  clear hK Kc
  (try simp only [ly])
  refine oneH (i := 11) (by kernel_rfl) rfl (fun Kc hK => ?_)
  go_simp
  refine hK.out _ _ hHeld (fun hHeld => ?_)
  clear hK Kc
  (try simp only [ly])
 case' pb =>
  go_simp
  refine hK.out _ _ hHeld (fun hHeld => ?_)
  clear hK Kc
  (try simp only [ly])
  refine oneH (i := 5) (by kernel_rfl) rfl (fun Kc hK => ?_)
  go_simp
  refine hK.out _ _ hHeld (fun hHeld => ?_)
  clear hK Kc
  (try simp only [ly])
 all_goals
  refine oneH (i := 12) (by kernel_rfl) rfl (fun Kc hK => ?_)
  go_simp
  go_at_call 72
  refine (HPU.out _ (Below.refl _ _).drew).mono ?_
  rintro e wq ⟨g, k, rfl, hg, hb, hs⟩
  have HBQ : Hid (Below W.heap.size W wq) := Lib.hid ((Below.refl _ _).drew.trans hb)
  have HSQ := Lib.hid hs
  have HGQ : Hid (W.heap.size ≤ g) := Lib.hid hg
  clear hb hs hg hHeld
  go_wp2_with fail
  refine hK.out _ _ (Buts.of_below HBQ.out) (fun hHeld => ?_)
  clear hK Kc c10 c12 lKp
  (try simp only [ly])
  refine tT 13 ?_ rfl ?_ ?_; rotate_left; (focus intros; go_simp; try rfl)
  refine tT 14 ?_ rfl ?_ ?_; rotate_left; (focus intros; go_simp; try rfl)
  refine tT 15 ?_ rfl ?_ ?_; rotate_left; (focus intros; go_simp; try rfl); (try simp only [ly])
  have HPR := Lib.hid (HP0.out.below HBQ.out)
  have lK := HPR.out.lt
  have fK := HPR.out.froz
  have c12 := HPR.out.cell 12 _ rfl
  have hf := HPR.out.putN [(12, .slice (some ⟨g, 0, none⟩) nl k)] { s with a := pushX s.a s.a.g.p } rfl (by show SmV wq ((s.a.g.p :: s.a.sm).take s.a.sm.length) _; rw [HNL.out]; exact HSQ.out) HPR.out.ln (ApW.new_row HP0.out HGQ.out _ _) HPR.out.a2 HPR.out.a3 rfl (HPR.out.inv.push HPR.out.inv.pos) rfl
  have HF := Lib.hid hf
  clear hf
  refine oneH (i := 16) (by kernel_rfl) rfl (fun Kc hK => ?_)
  go_simp
  refine hK.out _ _ (Buts.setR (Buts.of_below HBQ.out) _ _) (fun hHeld => ?_)
  clear hK Kc hHeld c12 lK fK
  (try simp only [ly])
  refine wpAnyH_done (by kernel_rfl) ?_ _
  (try simp only [ly])
  obtain ⟨WQ, hWQ⟩ : ∃ x, x = wq.setCell ⟨K, 12, none⟩ (.slice (some ⟨g, 0, none⟩) nl k) := ⟨_, rfl⟩
  have HPQ : Hid (WKp WQ K { s with a := pushX s.a s.a.g.p } rv (.slice (some ⟨g, 0, none⟩) nl k) nv wv cv) := Lib.hid (by rw [hWQ]; exact HF.out.1)
  have HTQ : Hid (Turn K rv rv W WQ) := Lib.hid (by rw [hWQ]; exact HT0.out.trans ((Turn.of_below HBQ.out).trans HF.out.2))
  rw [← hWQ]
  clear hWQ HF HPR HSQ HGQ HBQ HPU HNL HPL
  go_wp2
  go_ret
  rw [HEQ.out]
  exact ⟨rfl, ⟨_, _, _, _, HPQ.out⟩, HTQ.out⟩

set_option maxRecDepth 100000 in
theorem asteps_b (s : WS) (K : Nat) (rv : Value) (W : World) (h : WK W K s rv) (hst : s.a.st ≠ 0) (r : WantR) (hr : wantX s.a s.i = r) (p2 v2 : Int) (hg : stepG (bndX s.a) s.a.g r.v = ⟨p2, v2⟩) (hby : r.by_ = false) :
  Calls Tryz.prog 34 #[.pointer (some ⟨K, 0, none⟩)] W fun x w' => x = .returned (.bool (stepsX s.a s.i).passed) ∧ WK w' K { s with a := (stepsX s.a s.i).a } rv ∧ Turn K rv rv W w' := by
 obtain ⟨s1, hs1⟩ : ∃ x : WS, { s with a := r.a } = x := ⟨_, rfl⟩
 obtain ⟨b, hbn⟩ : ∃ b, bndX s1.a = b := ⟨_, rfl⟩
 have hk := want_kept s.a s.i
 rw [hr] at hk
 have hk1 : s1.a.g = s.a.g := by rw [← hs1]; exact hk.1
 have hk2 : s1.a.ns = s.a.ns := by rw [← hs1]; exact hk.2.1
 have hk4 : bndX s1.a = bndX s.a := by rw [← hs1]; exact hk.2.2.2
 obtain ⟨s2, hs2⟩ : ∃ x : WS, { s1 with a := { s1.a with g := ⟨p2, v2⟩ } } = x := ⟨_, rfl⟩
 have HEQ : Hid ((stepsX s.a s.i).a = pushX s2.a s2.a.g.p ∧ (stepsX s.a s.i).passed = (r.by_ && ((decide (s.a.g.p < (underX s.a).x.target) && decide ((underX s.a).x.target ≤ p2)) || (decide ((underX s.a).x.target < s.a.g.p) && decide (p2 ≤ (underX s.a).x.target))))) := Lib.hid (by
  have hgo : goneX r.a r.v = pushX s2.a s2.a.g.p := by
   unfold goneX
   have e1 : bndX r.a = bndX s.a := hk.2.2.2
   have e2 : r.a.g = s.a.g := hk.1
   dsimp only
   rw [e1, e2, hg, ← hs2, ← hs1]
  have hgg : (goneX r.a r.v).g.p = p2 := by rw [hgo, ← hs2]; rfl
  unfold stepsX
  rw [if_neg hst, hr]
  dsimp only
  rw [hgg]
  exact ⟨hgo, rfl⟩)
 have HSG : Hid (stepG ⟨b.v, b.a, b.d, b.lo, b.hi⟩ ⟨s1.a.g.p, s1.a.g.v⟩ r.v = ⟨p2, v2⟩) := Lib.hid (by
  have : stepG b s1.a.g r.v = ⟨p2, v2⟩ := by rw [← hbn, hk4, hk1]; exact hg
  exact this)
 have HBN := Lib.hid hbn
 have HR := Lib.hid hr
 have HS1 := Lib.hid hs1
 have HS2 := Lib.hid hs2
 have HK1 := Lib.hid hk1
 have HK2 := Lib.hid hk2
 have HW := Lib.hid h
 have us0 : (s.a.st == 0) = false := by simp [hst]
 have HBY := Lib.hid hby
 obtain ⟨sv0, nv0, wv0, cv0, hp0⟩ := h
 have c_st := hp0.cell 0 _ rfl
 have lK := hp0.lt
 have fK := hp0.froz
 have HUW : Hid ((underX s.a).ok = true → CmdW (underX s.a).x) := Lib.hid (fun h => under_w hp0.inv h)
 clear hst hr hg hs1 hbn hk hk1 hk2 hk4 hs2 hp0
 go_enter Tryz.func34, Tryz.ntmps34
 go_wp2_with fail
 refine (awanted_at s K rv W HW.out).mono ?_
 rw [HR.out]
 rintro e w1 ⟨rfl, hw1, ht1⟩
 rw [HS1.out] at hw1
 obtain ⟨sv, nv, wv, cv, hp⟩ := hw1
 have HP1 := Lib.hid hp
 have HT1 := Lib.hid ht1
 obtain ⟨L, hL⟩ := axL_some s1.a sv nv wv
 have HAL := Lib.hid hL
 have HRG : Hid (w1.drew.rangeAt K 0 L) := Lib.hid ((hp.below (Below.refl _ _).drew).range hL)
 have HOK : Hid (okB ⟨b.v, b.a, b.d, b.lo, b.hi⟩ ⟨s1.a.g.p, s1.a.g.v⟩ = true) := Lib.hid (by have := hp.inv.okb; rw [HBN.out] at this; exact this)
 clear ht1 hL c_st lK fK us0
 have c_gp := hp.cell 10 _ rfl
 have c_gv := hp.cell 11 _ rfl
 have lK := hp.lt
 have fK := hp.froz
 clear hp
 rw [HBY.out]
 go_upto_region 6 with (fail)
 go_cut [] from 40 to 55 (fun wx => Hid (WKp wx K s2 rv sv nv wv cv) ∧ Hid (Turn K rv rv W wx))
 case first =>
  refine wp_region_held_drew (S := fun w' => Buts (fun b => b = K) w1 w') (by kernel_rfl) ?_ (fun hHeld => ?_)
  ·exact (Buts.refl _ _).drew
  refine tT 0 ?_ rfl ?_ ?_; rotate_left; (focus intros; go_simp; try rfl)
  refine tT 1 ?_ rfl ?_ ?_; rotate_left; (focus intros; go_simp; try rfl)
  refine tT 2 ?_ rfl ?_ ?_; rotate_left; (focus intros; go_simp; try rfl); (try simp only [ly])
  refine tT 3 ?_ rfl ?_ ?_; rotate_left; (focus intros; go_simp; try rfl)
  refine tT 6 ?_ rfl ?_ ?_; rotate_left; (focus intros; go_simp; try rfl)
  refine tT 7 ?_ rfl ?_ ?_; rotate_left; (focus intros; go_simp; try rfl); (try simp only [ly])
  refine tT 8 ?_ rfl ?_ ?_; rotate_left; (focus intros; go_simp; try rfl)
  refine tT 9 ?_ rfl ?_ ?_; rotate_left; (focus intros; go_simp; try rfl)
  refine tT 11 ?_ rfl ?_ ?_; rotate_left; (focus intros; go_simp; try rfl); (try simp only [ly])
  refine twoX (i := 4) (j := 10) (by kernel_rfl) rfl rfl (fun Kc hK => ?ma) (fun Kc hK => ?mb)
  case' ma =>
   rw [if_pos (by kernel_rfl)]
   refine wp_load_mid 35 _ rfl K 0 rfl L _ HRG.out Tryz.underlying35 rfl HAL.out.size ?_
   refine hK.out _ _ hHeld (fun hHeld => ?_)
   clear hK Kc
   (try simp only [ly])
   refine twoX (i := 5) (j := 10) (by kernel_rfl) rfl rfl (fun Kc hK => ?mc) (fun Kc hK => ?md)
  case' mb =>
   go_simp
   refine hK.out _ _ hHeld (fun hHeld => ?_)
   clear hK Kc
   (try simp only [ly])
   refine oneH (i := 4) (by kernel_rfl) rfl (fun Kc hK => ?_)
   rw [if_pos (by kernel_rfl)]
   refine wp_load_mid 35 _ rfl K 0 rfl L _ HRG.out Tryz.underlying35 rfl HAL.out.size ?_
   refine hK.out _ _ hHeld (fun hHeld => ?_)
   clear hK Kc
   (try simp only [ly])
   refine oneH (i := 5) (by kernel_rfl) rfl (fun Kc hK => ?_)
   go_simp
   go_at_call 20
   refine (abounds_L s1.a sv nv wv L b _ HAL.out HBN.out).mono ?_
   rintro e wb ⟨rfl, hbb⟩
   have HBB : Hid (Below w1.heap.size w1 wb) := Lib.hid ((Below.refl _ _).drew.trans hbb)
   clear hbb hHeld
   go_wp2_with fail
   refine hK.out _ _ (Buts.of_below HBB.out) (fun hHeld => ?_)
   clear hK Kc
   (try simp only [ly])
  case' mc =>
   go_simp
   go_at_call 20
   refine (abounds_L s1.a sv nv wv L b _ HAL.out HBN.out).mono ?_
   rintro e wb ⟨rfl, hbb⟩
   have HBB : Hid (Below w1.heap.size w1 wb) := Lib.hid ((Below.refl _ _).drew.trans hbb)
   clear hbb hHeld
   go_wp2_with fail
   refine hK.out _ _ (Buts.of_below HBB.out) (fun hHeld => ?_)
   clear hK Kc
   (try simp only [ly])
   have c_gp := (HP1.out.below HBB.out).cell 10 _ rfl
   have c_gv := (HP1.out.below HBB.out).cell 11 _ rfl
   have lK := (HP1.out.below HBB.out).lt
   refine oneH (i := 10) (by kernel_rfl) rfl (fun Kc hK => ?_)
   go_simp
   refine hK.out _ _ hHeld (fun hHeld => ?_)
   clear hK Kc
   (try simp only [ly])
   clear c_gp c_gv lK
  case' md =>
   go_simp
   refine hK.out _ _ hHeld (fun hHeld => ?_)
   clear hK Kc
   (try simp only [ly])
   refine oneH (i := 5) (by kernel_rfl) rfl (fun Kc hK => ?_)
   go_simp
   go_at_call 20
   refine (abounds_L s1.a sv nv wv L b _ HAL.out HBN.out).mono ?_
   rintro e wb ⟨rfl, hbb⟩
   have HBB : Hid (Below w1.heap.size w1 wb) := Lib.hid ((Below.refl _ _).drew.trans hbb)
   clear hbb hHeld
   go_wp2_with fail
   refine hK.out _ _ (Buts.of_below HBB.out) (fun hHeld => ?_)
   clear hK Kc
   (try simp only [ly])
  all_goals
   refine oneH (i := 12) (by kernel_rfl) rfl (fun Kc hK => ?_)
   go_simp
   go_at_call 74
   refine (gstep_yes b.v b.a b.d b.lo b.hi s1.a.g.p s1.a.g.v r.v _ HOK.out).mono ?_
   rw [HSG.out]
   rintro e w3 ⟨rfl, hb3⟩
   have HB3 : Hid (Below w1.heap.size w1 w3) := Lib.hid (HBB.out.trans (hb3.mono HBB.out.size))
   clear hb3 hHeld
   go_wp2_with fail
   refine hK.out _ _ (Buts.of_below HB3.out) (fun hHeld => ?_)
   clear hK Kc
   (try simp only [ly])
   refine tT 13 ?_ rfl ?_ ?_; rotate_left; (focus intros; go_simp; try rfl)
   refine tT 14 ?_ rfl ?_ ?_; rotate_left; (focus intros; go_simp; try rfl)
   refine tT 15 ?_ rfl ?_ ?_; rotate_left; (focus intros; go_simp; try rfl); (try simp only [ly])
   have HP3 := Lib.hid (HP1.out.below HB3.out)
   have k10 := HP3.out.cell 10 _ rfl
   have k11 := HP3.out.cell 11 _ rfl
   have kf := HP3.out.froz
   have kl := HP3.out.lt
   have hf := HP3.out.put0 [(10, .int .i64 p2), (11, .int .i64 v2)] { s1 with a := { s1.a with g := ⟨p2, v2⟩ } } rfl rfl rfl rfl rfl ⟨HP3.out.inv.lr, HP3.out.inv.win, HP3.out.inv.hat, HP3.out.inv.hom, HP3.out.inv.len, HP3.out.inv.smr, (by
    have h1 := step_safe (bndX s1.a) s1.a.g r.v HP3.out.inv.br HP3.out.inv.safe
    rw [HBN.out] at h1
    have h2 : stepG b s1.a.g r.v = ⟨p2, v2⟩ := HSG.out
    rw [h2, ← HBN.out] at h1
    exact h1), HP3.out.inv.line, HP3.out.inv.cw, HP3.out.inv.ov, HP3.out.inv.off, HP3.out.inv.sta, HP3.out.inv.mas⟩ rfl
   have HF3 := Lib.hid hf
   clear hf
   refine oneH (i := 16) (by kernel_rfl) rfl (fun Kc hK => ?_)
   go_simp
   refine hK.out _ _ (Buts.setR (Buts.setR (Buts.of_below HB3.out) _ _) _ _) (fun hHeld => ?_)
   clear hK Kc hHeld k10 k11 kf kl
   (try simp only [ly])
   refine wpAnyH_done (by kernel_rfl) ?_ _
   (try simp only [ly])
   obtain ⟨W6, hW6⟩ : ∃ x, x = (w3.setCell ⟨K, 10, none⟩ (.int .i64 p2)).setCell ⟨K, 11, none⟩ (.int .i64 v2) := ⟨_, rfl⟩
   have HP6 : Hid (WKp W6 K s2 rv sv nv wv cv) := Lib.hid (by rw [hW6, ← HS2.out]; exact HF3.out.1)
   have HT6 : Hid (Turn K rv rv W W6) := Lib.hid (by rw [hW6]; exact HT1.out.trans ((Turn.of_below HB3.out).trans HF3.out.2))
   rw [← hW6]
   clear hW6 HF3 HP3 HB3 HBB
   go_wp2_with fail
   go_meet
   case rel => exact ⟨HP6, HT6⟩
 case rest =>
  obtain ⟨HP6, HT6⟩ := hcut
  clear HP1 HT1 HRG HOK c_gp c_gv lK fK
  go_upto_region 7 with (fail)
  have HPL : Hid (plB s2.a.g.p = true) := Lib.hid (plB_of HP6.out.inv.pos)
  obtain ⟨nl, hnl⟩ : ∃ n, s2.a.sm.length = n := ⟨_, rfl⟩
  have HNL := Lib.hid hnl
  have HPU : Hid (∀ w', Below wc.heap.size wc w' → Calls Tryz.prog 72 #[.agg #[sv], .int .i64 s2.a.g.p] w' fun e w'' => ∃ g k, e = .returned (.agg #[.slice (some ⟨g, 0, none⟩) nl k]) ∧ w'.heap.size ≤ g ∧ Below w'.heap.size w' w'' ∧ SmV w'' ((s2.a.g.p :: s2.a.sm).take nl) (.slice (some ⟨g, 0, none⟩) nl k)) := Lib.hid (fun w' hb => by
   rw [← hnl]
   exact apush_at s2.a.sm sv _ w' (HP6.out.sm.below hb) HP6.out.inv.smr HPL.out)
  clear hnl
  have c10 : wc.cell? ⟨K, 10, none⟩ = some (.int .i64 s2.a.g.p) := HP6.out.cell 10 _ rfl
  have c12 : wc.cell? ⟨K, 12, none⟩ = some sv := HP6.out.cell 12 _ rfl
  have lKp := HP6.out.lt
  refine wp_region_held_drew (S := fun w' => Buts (fun b => b = K) wc w') (by kernel_rfl) ?_ (fun hHeld => ?_)
  ·exact (Buts.refl _ _).drew
  refine tT 0 ?_ rfl ?_ ?_; rotate_left; (focus intros; go_simp; try rfl)
  refine tT 1 ?_ rfl ?_ ?_; rotate_left; (focus intros; go_simp; try rfl)
  refine tT 2 ?_ rfl ?_ ?_; rotate_left; (focus intros; go_simp; try rfl); (try simp only [ly])
  refine tT 3 ?_ rfl ?_ ?_; rotate_left; (focus intros; go_simp; try rfl)
  refine tT 4 ?_ rfl ?_ ?_; rotate_left; (focus intros; go_simp; try rfl)
  refine tT 6 ?_ rfl ?_ ?_; rotate_left; (focus intros; go_simp; try rfl); (try simp only [ly])
  refine tT 7 ?_ rfl ?_ ?_; rotate_left; (focus intros; go_simp; try rfl)
  refine tT 8 ?_ rfl ?_ ?_; rotate_left; (focus intros; go_simp; try rfl)
  refine tT 9 ?_ rfl ?_ ?_; rotate_left; (focus intros; go_simp; try rfl); (try simp only [ly])
  refine tT 10 ?_ rfl ?_ ?_; rotate_left; (focus intros; go_simp; try rfl); (try simp only [ly])
  refine twoX (i := 5) (j := 11) (by kernel_rfl) rfl rfl (fun Kc hK => ?pa) (fun Kc hK => ?pb)
  case' pa =>
   go_simp
   refine hK.out _ _ hHeld (fun hHeld => ?_)
   clear hK Kc
   (try simp only [ly])
   refine oneH (i := 11) (by kernel_rfl) rfl (fun Kc hK => ?_)
   go_simp
   refine hK.out _ _ hHeld (fun hHeld => ?_)
   clear hK Kc
   (try simp only [ly])
  case' pb =>
   go_simp
   refine hK.out _ _ hHeld (fun hHeld => ?_)
   clear hK Kc
   (try simp only [ly])
   refine oneH (i := 5) (by kernel_rfl) rfl (fun Kc hK => ?_)
   go_simp
   refine hK.out _ _ hHeld (fun hHeld => ?_)
   clear hK Kc
   (try simp only [ly])
  all_goals
   refine oneH (i := 12) (by kernel_rfl) rfl (fun Kc hK => ?_)
   go_simp
   go_at_call 72
   refine (HPU.out _ (Below.refl _ _).drew).mono ?_
   rintro e wq ⟨g, k, rfl, hg, hb, hs⟩
   have HBQ : Hid (Below wc.heap.size wc wq) := Lib.hid ((Below.refl _ _).drew.trans hb)
   have HSQ := Lib.hid hs
   have HGQ : Hid (wc.heap.size ≤ g) := Lib.hid hg
   clear hb hs hg hHeld
   go_wp2_with fail
   refine hK.out _ _ (Buts.of_below HBQ.out) (fun hHeld => ?_)
   clear hK Kc c10 c12 lKp
   (try simp only [ly])
   refine tT 13 ?_ rfl ?_ ?_; rotate_left; (focus intros; go_simp; try rfl)
   refine tT 14 ?_ rfl ?_ ?_; rotate_left; (focus intros; go_simp; try rfl)
   refine tT 15 ?_ rfl ?_ ?_; rotate_left; (focus intros; go_simp; try rfl); (try simp only [ly])
   have HPR := Lib.hid (HP6.out.below HBQ.out)
   have lK := HPR.out.lt
   have fK := HPR.out.froz
   have c12 := HPR.out.cell 12 _ rfl
   have hf := HPR.out.putN [(12, .slice (some ⟨g, 0, none⟩) nl k)] { s2 with a := pushX s2.a s2.a.g.p } rfl (by show SmV wq ((s2.a.g.p :: s2.a.sm).take s2.a.sm.length) _; rw [HNL.out]; exact HSQ.out) HPR.out.ln (ApW.new_row HP6.out HGQ.out _ _) HPR.out.a2 HPR.out.a3 rfl (HPR.out.inv.push HPR.out.inv.pos) rfl
   have HF := Lib.hid hf
   clear hf
   refine oneH (i := 16) (by kernel_rfl) rfl (fun Kc hK => ?_)
   go_simp
   refine hK.out _ _ (Buts.setR (Buts.of_below HBQ.out) _ _) (fun hHeld => ?_)
   clear hK Kc hHeld c12 lK fK
   (try simp only [ly])
   refine wpAnyH_done (by kernel_rfl) ?_ _
   (try simp only [ly])
   obtain ⟨WQ, hWQ⟩ : ∃ x, x = wq.setCell ⟨K, 12, none⟩ (.slice (some ⟨g, 0, none⟩) nl k) := ⟨_, rfl⟩
   have HPQ : Hid (WKp WQ K { s2 with a := pushX s2.a s2.a.g.p } rv (.slice (some ⟨g, 0, none⟩) nl k) nv wv cv) := Lib.hid (by rw [hWQ]; exact HF.out.1)
   have HTQ : Hid (Turn K rv rv W WQ) := Lib.hid (by rw [hWQ]; exact HT6.out.trans ((Turn.of_below HBQ.out).trans HF.out.2))
   rw [← hWQ]
   clear hWQ HF HPR HSQ HGQ HBQ HPU HNL HPL
   go_wp2
   go_ret
   obtain ⟨q1, q2⟩ := HEQ.out
   rw [q1, q2, hby]
   exact ⟨rfl, ⟨_, _, _, _, (by have := HPQ.out; rw [← HS2.out, ← HS1.out] at this ⊢; exact this)⟩, HTQ.out⟩

set_option maxRecDepth 100000 in
theorem asteps_c (s : WS) (K : Nat) (rv : Value) (W : World) (h : WK W K s rv) (hst : s.a.st ≠ 0) (r : WantR) (hr : wantX s.a s.i = r) (p2 v2 : Int) (hg : stepG (bndX s.a) s.a.g r.v = ⟨p2, v2⟩) (hby : r.by_ = true) :
  Calls Tryz.prog 34 #[.pointer (some ⟨K, 0, none⟩)] W fun x w' => x = .returned (.bool (stepsX s.a s.i).passed) ∧ WK w' K { s with a := (stepsX s.a s.i).a } rv ∧ Turn K rv rv W w' := by
 obtain ⟨s1, hs1⟩ : ∃ x : WS, { s with a := r.a } = x := ⟨_, rfl⟩
 obtain ⟨b, hbn⟩ : ∃ b, bndX s1.a = b := ⟨_, rfl⟩
 have hk := want_kept s.a s.i
 rw [hr] at hk
 have hk1 : s1.a.g = s.a.g := by rw [← hs1]; exact hk.1
 have hk2 : s1.a.ns = s.a.ns := by rw [← hs1]; exact hk.2.1
 have hk4 : bndX s1.a = bndX s.a := by rw [← hs1]; exact hk.2.2.2
 obtain ⟨s2, hs2⟩ : ∃ x : WS, { s1 with a := { s1.a with g := ⟨p2, v2⟩ } } = x := ⟨_, rfl⟩
 have HEQ : Hid ((stepsX s.a s.i).a = pushX s2.a s2.a.g.p ∧ (stepsX s.a s.i).passed = (r.by_ && ((decide (s.a.g.p < (underX s.a).x.target) && decide ((underX s.a).x.target ≤ p2)) || (decide ((underX s.a).x.target < s.a.g.p) && decide (p2 ≤ (underX s.a).x.target))))) := Lib.hid (by
  have hgo : goneX r.a r.v = pushX s2.a s2.a.g.p := by
   unfold goneX
   have e1 : bndX r.a = bndX s.a := hk.2.2.2
   have e2 : r.a.g = s.a.g := hk.1
   dsimp only
   rw [e1, e2, hg, ← hs2, ← hs1]
  have hgg : (goneX r.a r.v).g.p = p2 := by rw [hgo, ← hs2]; rfl
  unfold stepsX
  rw [if_neg hst, hr]
  dsimp only
  rw [hgg]
  exact ⟨hgo, rfl⟩)
 have HSG : Hid (stepG ⟨b.v, b.a, b.d, b.lo, b.hi⟩ ⟨s1.a.g.p, s1.a.g.v⟩ r.v = ⟨p2, v2⟩) := Lib.hid (by
  have : stepG b s1.a.g r.v = ⟨p2, v2⟩ := by rw [← hbn, hk4, hk1]; exact hg
  exact this)
 have HBN := Lib.hid hbn
 have HR := Lib.hid hr
 have HS1 := Lib.hid hs1
 have HS2 := Lib.hid hs2
 have HK1 := Lib.hid hk1
 have HK2 := Lib.hid hk2
 have HW := Lib.hid h
 have us0 : (s.a.st == 0) = false := by simp [hst]
 have HBY := Lib.hid hby
 have HUO : Hid ((underX s.a).ok = true) := Lib.hid (want_by (i := s.i) (by rw [hr]; exact hby))
 obtain ⟨sv0, nv0, wv0, cv0, hp0⟩ := h
 have c_st := hp0.cell 0 _ rfl
 have lK := hp0.lt
 have fK := hp0.froz
 have HUW : Hid ((underX s.a).ok = true → CmdW (underX s.a).x) := Lib.hid (fun h => under_w hp0.inv h)
 clear hst hr hg hs1 hbn hk hk1 hk2 hk4 hs2 hp0
 go_enter Tryz.func34, Tryz.ntmps34
 go_wp2_with fail
 refine (awanted_at s K rv W HW.out).mono ?_
 rw [HR.out]
 rintro e w1 ⟨rfl, hw1, ht1⟩
 rw [HS1.out] at hw1
 obtain ⟨sv, nv, wv, cv, hp⟩ := hw1
 have HP1 := Lib.hid hp
 have HT1 := Lib.hid ht1
 obtain ⟨L, hL⟩ := axL_some s1.a sv nv wv
 have HAL := Lib.hid hL
 have HRG : Hid (w1.drew.rangeAt K 0 L) := Lib.hid ((hp.below (Below.refl _ _).drew).range hL)
 have HOK : Hid (okB ⟨b.v, b.a, b.d, b.lo, b.hi⟩ ⟨s1.a.g.p, s1.a.g.v⟩ = true) := Lib.hid (by have := hp.inv.okb; rw [HBN.out] at this; exact this)
 clear ht1 hL c_st lK fK us0
 have c_gp := hp.cell 10 _ rfl
 have c_gv := hp.cell 11 _ rfl
 have lK := hp.lt
 have fK := hp.froz
 clear hp
 rw [HBY.out]
 go_upto_region 6 with (fail)
 go_cut [] from 40 to 55 (fun wx => Hid (WKp wx K s2 rv sv nv wv cv) ∧ Hid (Turn K rv rv W wx))
 case first =>
  refine wp_region_held_drew (S := fun w' => Buts (fun b => b = K) w1 w') (by kernel_rfl) ?_ (fun hHeld => ?_)
  ·exact (Buts.refl _ _).drew
  refine tT 0 ?_ rfl ?_ ?_; rotate_left; (focus intros; go_simp; try rfl)
  refine tT 1 ?_ rfl ?_ ?_; rotate_left; (focus intros; go_simp; try rfl)
  refine tT 2 ?_ rfl ?_ ?_; rotate_left; (focus intros; go_simp; try rfl); (try simp only [ly])
  refine tT 3 ?_ rfl ?_ ?_; rotate_left; (focus intros; go_simp; try rfl)
  refine tT 6 ?_ rfl ?_ ?_; rotate_left; (focus intros; go_simp; try rfl)
  refine tT 7 ?_ rfl ?_ ?_; rotate_left; (focus intros; go_simp; try rfl); (try simp only [ly])
  refine tT 8 ?_ rfl ?_ ?_; rotate_left; (focus intros; go_simp; try rfl)
  refine tT 9 ?_ rfl ?_ ?_; rotate_left; (focus intros; go_simp; try rfl)
  refine tT 11 ?_ rfl ?_ ?_; rotate_left; (focus intros; go_simp; try rfl); (try simp only [ly])
  refine twoX (i := 4) (j := 10) (by kernel_rfl) rfl rfl (fun Kc hK => ?ma) (fun Kc hK => ?mb)
  case' ma =>
   rw [if_pos (by kernel_rfl)]
   refine wp_load_mid 35 _ rfl K 0 rfl L _ HRG.out Tryz.underlying35 rfl HAL.out.size ?_
   refine hK.out _ _ hHeld (fun hHeld => ?_)
   clear hK Kc
   (try simp only [ly])
   refine twoX (i := 5) (j := 10) (by kernel_rfl) rfl rfl (fun Kc hK => ?mc) (fun Kc hK => ?md)
  case' mb =>
   go_simp
   refine hK.out _ _ hHeld (fun hHeld => ?_)
   clear hK Kc
   (try simp only [ly])
   refine oneH (i := 4) (by kernel_rfl) rfl (fun Kc hK => ?_)
   rw [if_pos (by kernel_rfl)]
   refine wp_load_mid 35 _ rfl K 0 rfl L _ HRG.out Tryz.underlying35 rfl HAL.out.size ?_
   refine hK.out _ _ hHeld (fun hHeld => ?_)
   clear hK Kc
   (try simp only [ly])
   refine oneH (i := 5) (by kernel_rfl) rfl (fun Kc hK => ?_)
   go_simp
   go_at_call 20
   refine (abounds_L s1.a sv nv wv L b _ HAL.out HBN.out).mono ?_
   rintro e wb ⟨rfl, hbb⟩
   have HBB : Hid (Below w1.heap.size w1 wb) := Lib.hid ((Below.refl _ _).drew.trans hbb)
   clear hbb hHeld
   go_wp2_with fail
   refine hK.out _ _ (Buts.of_below HBB.out) (fun hHeld => ?_)
   clear hK Kc
   (try simp only [ly])
  case' mc =>
   go_simp
   go_at_call 20
   refine (abounds_L s1.a sv nv wv L b _ HAL.out HBN.out).mono ?_
   rintro e wb ⟨rfl, hbb⟩
   have HBB : Hid (Below w1.heap.size w1 wb) := Lib.hid ((Below.refl _ _).drew.trans hbb)
   clear hbb hHeld
   go_wp2_with fail
   refine hK.out _ _ (Buts.of_below HBB.out) (fun hHeld => ?_)
   clear hK Kc
   (try simp only [ly])
   have c_gp := (HP1.out.below HBB.out).cell 10 _ rfl
   have c_gv := (HP1.out.below HBB.out).cell 11 _ rfl
   have lK := (HP1.out.below HBB.out).lt
   refine oneH (i := 10) (by kernel_rfl) rfl (fun Kc hK => ?_)
   go_simp
   refine hK.out _ _ hHeld (fun hHeld => ?_)
   clear hK Kc
   (try simp only [ly])
   clear c_gp c_gv lK
  case' md =>
   go_simp
   refine hK.out _ _ hHeld (fun hHeld => ?_)
   clear hK Kc
   (try simp only [ly])
   refine oneH (i := 5) (by kernel_rfl) rfl (fun Kc hK => ?_)
   go_simp
   go_at_call 20
   refine (abounds_L s1.a sv nv wv L b _ HAL.out HBN.out).mono ?_
   rintro e wb ⟨rfl, hbb⟩
   have HBB : Hid (Below w1.heap.size w1 wb) := Lib.hid ((Below.refl _ _).drew.trans hbb)
   clear hbb hHeld
   go_wp2_with fail
   refine hK.out _ _ (Buts.of_below HBB.out) (fun hHeld => ?_)
   clear hK Kc
   (try simp only [ly])
  all_goals
   refine oneH (i := 12) (by kernel_rfl) rfl (fun Kc hK => ?_)
   go_simp
   go_at_call 74
   refine (gstep_yes b.v b.a b.d b.lo b.hi s1.a.g.p s1.a.g.v r.v _ HOK.out).mono ?_
   rw [HSG.out]
   rintro e w3 ⟨rfl, hb3⟩
   have HB3 : Hid (Below w1.heap.size w1 w3) := Lib.hid (HBB.out.trans (hb3.mono HBB.out.size))
   clear hb3 hHeld
   go_wp2_with fail
   refine hK.out _ _ (Buts.of_below HB3.out) (fun hHeld => ?_)
   clear hK Kc
   (try simp only [ly])
   refine tT 13 ?_ rfl ?_ ?_; rotate_left; (focus intros; go_simp; try rfl)
   refine tT 14 ?_ rfl ?_ ?_; rotate_left; (focus intros; go_simp; try rfl)
   refine tT 15 ?_ rfl ?_ ?_; rotate_left; (focus intros; go_simp; try rfl); (try simp only [ly])
   have HP3 := Lib.hid (HP1.out.below HB3.out)
   have k10 := HP3.out.cell 10 _ rfl
   have k11 := HP3.out.cell 11 _ rfl
   have kf := HP3.out.froz
   have kl := HP3.out.lt
   have hf := HP3.out.put0 [(10, .int .i64 p2), (11, .int .i64 v2)] { s1 with a := { s1.a with g := ⟨p2, v2⟩ } } rfl rfl rfl rfl rfl ⟨HP3.out.inv.lr, HP3.out.inv.win, HP3.out.inv.hat, HP3.out.inv.hom, HP3.out.inv.len, HP3.out.inv.smr, (by
    have h1 := step_safe (bndX s1.a) s1.a.g r.v HP3.out.inv.br HP3.out.inv.safe
    rw [HBN.out] at h1
    have h2 : stepG b s1.a.g r.v = ⟨p2, v2⟩ := HSG.out
    rw [h2, ← HBN.out] at h1
    exact h1), HP3.out.inv.line, HP3.out.inv.cw, HP3.out.inv.ov, HP3.out.inv.off, HP3.out.inv.sta, HP3.out.inv.mas⟩ rfl
   have HF3 := Lib.hid hf
   clear hf
   refine oneH (i := 16) (by kernel_rfl) rfl (fun Kc hK => ?_)
   go_simp
   refine hK.out _ _ (Buts.setR (Buts.setR (Buts.of_below HB3.out) _ _) _ _) (fun hHeld => ?_)
   clear hK Kc hHeld k10 k11 kf kl
   (try simp only [ly])
   refine wpAnyH_done (by kernel_rfl) ?_ _
   (try simp only [ly])
   obtain ⟨W6, hW6⟩ : ∃ x, x = (w3.setCell ⟨K, 10, none⟩ (.int .i64 p2)).setCell ⟨K, 11, none⟩ (.int .i64 v2) := ⟨_, rfl⟩
   have HP6 : Hid (WKp W6 K s2 rv sv nv wv cv) := Lib.hid (by rw [hW6, ← HS2.out]; exact HF3.out.1)
   have HT6 : Hid (Turn K rv rv W W6) := Lib.hid (by rw [hW6]; exact HT1.out.trans ((Turn.of_below HB3.out).trans HF3.out.2))
   rw [← hW6]
   clear hW6 HF3 HP3 HB3 HBB
   go_wp2_with fail
   go_meet
   case rel => exact ⟨HP6, HT6⟩
 case rest =>
  obtain ⟨HP6, HT6⟩ := hcut
  clear HP1 HT1 HRG HOK c_gp c_gv lK fK
  go_upto_region 7 with (fail)
  have HPL : Hid (plB s2.a.g.p = true) := Lib.hid (plB_of HP6.out.inv.pos)
  obtain ⟨nl, hnl⟩ : ∃ n, s2.a.sm.length = n := ⟨_, rfl⟩
  have HNL := Lib.hid hnl
  have HPU : Hid (∀ w', Below wc.heap.size wc w' → Calls Tryz.prog 72 #[.agg #[sv], .int .i64 s2.a.g.p] w' fun e w'' => ∃ g k, e = .returned (.agg #[.slice (some ⟨g, 0, none⟩) nl k]) ∧ w'.heap.size ≤ g ∧ Below w'.heap.size w' w'' ∧ SmV w'' ((s2.a.g.p :: s2.a.sm).take nl) (.slice (some ⟨g, 0, none⟩) nl k)) := Lib.hid (fun w' hb => by
   rw [← hnl]
   exact apush_at s2.a.sm sv _ w' (HP6.out.sm.below hb) HP6.out.inv.smr HPL.out)
  clear hnl
  have c10 : wc.cell? ⟨K, 10, none⟩ = some (.int .i64 s2.a.g.p) := HP6.out.cell 10 _ rfl
  have c12 : wc.cell? ⟨K, 12, none⟩ = some sv := HP6.out.cell 12 _ rfl
  have lKp := HP6.out.lt
  refine wp_region_held_drew (S := fun w' => Buts (fun b => b = K) wc w') (by kernel_rfl) ?_ (fun hHeld => ?_)
  ·exact (Buts.refl _ _).drew
  refine tT 0 ?_ rfl ?_ ?_; rotate_left; (focus intros; go_simp; try rfl)
  refine tT 1 ?_ rfl ?_ ?_; rotate_left; (focus intros; go_simp; try rfl)
  refine tT 2 ?_ rfl ?_ ?_; rotate_left; (focus intros; go_simp; try rfl); (try simp only [ly])
  refine tT 3 ?_ rfl ?_ ?_; rotate_left; (focus intros; go_simp; try rfl)
  refine tT 4 ?_ rfl ?_ ?_; rotate_left; (focus intros; go_simp; try rfl)
  refine tT 6 ?_ rfl ?_ ?_; rotate_left; (focus intros; go_simp; try rfl); (try simp only [ly])
  refine tT 7 ?_ rfl ?_ ?_; rotate_left; (focus intros; go_simp; try rfl)
  refine tT 8 ?_ rfl ?_ ?_; rotate_left; (focus intros; go_simp; try rfl)
  refine tT 9 ?_ rfl ?_ ?_; rotate_left; (focus intros; go_simp; try rfl); (try simp only [ly])
  refine tT 10 ?_ rfl ?_ ?_; rotate_left; (focus intros; go_simp; try rfl); (try simp only [ly])
  refine twoX (i := 5) (j := 11) (by kernel_rfl) rfl rfl (fun Kc hK => ?pa) (fun Kc hK => ?pb)
  case' pa =>
   go_simp
   refine hK.out _ _ hHeld (fun hHeld => ?_)
   clear hK Kc
   (try simp only [ly])
   refine oneH (i := 11) (by kernel_rfl) rfl (fun Kc hK => ?_)
   go_simp
   refine hK.out _ _ hHeld (fun hHeld => ?_)
   clear hK Kc
   (try simp only [ly])
  case' pb =>
   go_simp
   refine hK.out _ _ hHeld (fun hHeld => ?_)
   clear hK Kc
   (try simp only [ly])
   refine oneH (i := 5) (by kernel_rfl) rfl (fun Kc hK => ?_)
   go_simp
   refine hK.out _ _ hHeld (fun hHeld => ?_)
   clear hK Kc
   (try simp only [ly])
  all_goals
   refine oneH (i := 12) (by kernel_rfl) rfl (fun Kc hK => ?_)
   go_simp
   go_at_call 72
   refine (HPU.out _ (Below.refl _ _).drew).mono ?_
   rintro e wq ⟨g, k, rfl, hg, hb, hs⟩
   have HBQ : Hid (Below wc.heap.size wc wq) := Lib.hid ((Below.refl _ _).drew.trans hb)
   have HSQ := Lib.hid hs
   have HGQ : Hid (wc.heap.size ≤ g) := Lib.hid hg
   clear hb hs hg hHeld
   go_wp2_with fail
   refine hK.out _ _ (Buts.of_below HBQ.out) (fun hHeld => ?_)
   clear hK Kc c10 c12 lKp
   (try simp only [ly])
   refine tT 13 ?_ rfl ?_ ?_; rotate_left; (focus intros; go_simp; try rfl)
   refine tT 14 ?_ rfl ?_ ?_; rotate_left; (focus intros; go_simp; try rfl)
   refine tT 15 ?_ rfl ?_ ?_; rotate_left; (focus intros; go_simp; try rfl); (try simp only [ly])
   have HPR := Lib.hid (HP6.out.below HBQ.out)
   have lK := HPR.out.lt
   have fK := HPR.out.froz
   have c12 := HPR.out.cell 12 _ rfl
   have hf := HPR.out.putN [(12, .slice (some ⟨g, 0, none⟩) nl k)] { s2 with a := pushX s2.a s2.a.g.p } rfl (by show SmV wq ((s2.a.g.p :: s2.a.sm).take s2.a.sm.length) _; rw [HNL.out]; exact HSQ.out) HPR.out.ln (ApW.new_row HP6.out HGQ.out _ _) HPR.out.a2 HPR.out.a3 rfl (HPR.out.inv.push HPR.out.inv.pos) rfl
   have HF := Lib.hid hf
   clear hf
   refine oneH (i := 16) (by kernel_rfl) rfl (fun Kc hK => ?_)
   go_simp
   refine hK.out _ _ (Buts.setR (Buts.of_below HBQ.out) _ _) (fun hHeld => ?_)
   clear hK Kc hHeld c12 lK fK
   (try simp only [ly])
   refine wpAnyH_done (by kernel_rfl) ?_ _
   (try simp only [ly])
   obtain ⟨WQ, hWQ⟩ : ∃ x, x = wq.setCell ⟨K, 12, none⟩ (.slice (some ⟨g, 0, none⟩) nl k) := ⟨_, rfl⟩
   have HPQ : Hid (WKp WQ K { s2 with a := pushX s2.a s2.a.g.p } rv (.slice (some ⟨g, 0, none⟩) nl k) nv wv cv) := Lib.hid (by rw [hWQ]; exact HF.out.1)
   have HTQ : Hid (Turn K rv rv W WQ) := Lib.hid (by rw [hWQ]; exact HT6.out.trans ((Turn.of_below HBQ.out).trans HF.out.2))
   rw [← hWQ]
   clear hWQ HF HPR HSQ HGQ HBQ HPU HNL HPL
   have hnow := HPQ.out.now
   have hnq : ({ s2 with a := pushX s2.a s2.a.g.p } : WS).a.ns = s.a.ns := by rw [← HK2.out, ← HS2.out]; rfl
   rw [hnq] at hnow
   rcases hnow with ⟨hn, -⟩ | ⟨y, bb, oo, cc, hn, hnv, hc1, hc2, hbb, hy⟩
   ·exact absurd HUO.out (by unfold underX; rw [hn]; decide)
   ·have HUX : Hid ((underX s.a).x = y) := Lib.hid (by unfold underX; rw [hn])
    have y2 := hy 2 (by decide)
    simp only [CmdS.cells, List.getElem?_cons_zero, List.getElem?_cons_succ] at y2
    have c_nv : WQ.cell? ⟨K, 14, none⟩ = some (.slice (some ⟨bb, oo, none⟩) 1 cc) := by rw [← hnv]; exact HPQ.out.cell 14 _ rfl
    have c_gp : WQ.cell? ⟨K, 10, none⟩ = some (.int .i64 p2) := HPQ.out.cell 10 _ (by rw [← HS2.out]; rfl)
    have lK := HPQ.out.lt
    obtain ⟨f, hf⟩ : ∃ f, s1.a.g.p = f := ⟨_, rfl⟩
    obtain ⟨t, ht⟩ : ∃ t, y.target = t := ⟨_, rfl⟩
    have HF0 := Lib.hid hf
    have HT0 := Lib.hid ht
    rw [ht] at y2
    rw [hf]
    clear hy hn hnv hnq hf ht
    by_cases g1 : f < t
    ·have g3 : ¬ t < f := by omega
     by_cases g2 : t ≤ p2
     ·go_wp2
      go_ret
      obtain ⟨q1, q2⟩ := HEQ.out
      rw [q1, q2, HBY.out, HUX.out, ← HK1.out, HF0.out, HT0.out]
      exact ⟨by first | (simp [g1, g2, g3]; done) | (simp [g1, g2, g3]; omega), ⟨_, _, _, _, (by have := HPQ.out; rw [← HS2.out, ← HS1.out] at this ⊢; exact this)⟩, HTQ.out⟩
     ·go_wp2
      go_ret
      obtain ⟨q1, q2⟩ := HEQ.out
      rw [q1, q2, HBY.out, HUX.out, ← HK1.out, HF0.out, HT0.out]
      exact ⟨by first | (simp [g1, g2, g3]; done) | (simp [g1, g2, g3]; omega), ⟨_, _, _, _, (by have := HPQ.out; rw [← HS2.out, ← HS1.out] at this ⊢; exact this)⟩, HTQ.out⟩
    ·by_cases g3 : t < f
     ·by_cases g2 : p2 ≤ t
      ·go_wp2
       go_ret
       obtain ⟨q1, q2⟩ := HEQ.out
       rw [q1, q2, HBY.out, HUX.out, ← HK1.out, HF0.out, HT0.out]
       exact ⟨by first | (simp [g1, g2, g3]; done) | (simp [g1, g2, g3]; omega), ⟨_, _, _, _, (by have := HPQ.out; rw [← HS2.out, ← HS1.out] at this ⊢; exact this)⟩, HTQ.out⟩
      ·go_wp2
       go_ret
       obtain ⟨q1, q2⟩ := HEQ.out
       rw [q1, q2, HBY.out, HUX.out, ← HK1.out, HF0.out, HT0.out]
       exact ⟨by first | (simp [g1, g2, g3]; done) | (simp [g1, g2, g3]; omega), ⟨_, _, _, _, (by have := HPQ.out; rw [← HS2.out, ← HS1.out] at this ⊢; exact this)⟩, HTQ.out⟩
     ·have g2 : True := trivial
      go_wp2
      go_ret
      obtain ⟨q1, q2⟩ := HEQ.out
      rw [q1, q2, HBY.out, HUX.out, ← HK1.out, HF0.out, HT0.out]
      exact ⟨by first | (simp [g1, g2, g3]; done) | (simp [g1, g2, g3]; omega), ⟨_, _, _, _, (by have := HPQ.out; rw [← HS2.out, ← HS1.out] at this ⊢; exact this)⟩, HTQ.out⟩

theorem asteps_at (s : WS) (K : Nat) (rv : Value) (W : World) (h : WK W K s rv) :
  Calls Tryz.prog 34 #[.pointer (some ⟨K, 0, none⟩)] W fun x w' => x = .returned (.bool (stepsX s.a s.i).passed) ∧ WK w' K { s with a := (stepsX s.a s.i).a } rv ∧ Turn K rv rv W w' := by
 by_cases h0 : s.a.st = 0
 ·exact asteps_a s K rv W h h0
 ·cases hb : (wantX s.a s.i).by_
  ·exact asteps_b s K rv W h h0 _ rfl _ _ rfl hb
  ·exact asteps_c s K rv W h h0 _ rfl _ _ rfl hb

end Go.Proofs.YthhfnageadckkaaGreat
