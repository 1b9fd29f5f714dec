/- Do expressions fit? Told exactly: the walk. PRINTED by wip/tool/mkfitx.py -/
import Derived.Test.YtcamegfnhbbaeaaM20
namespace Go.Proofs.Ytcamegfnhbbaeaa
open Go.RowKit
set_option linter.unusedVariables false
set_option linter.unusedSimpArgs false
attribute [local go_sem] ite_max ite_min vite_max vite_min ext_cell ext_frozen

set_option maxRecDepth 100000 in
set_option maxHeartbeats 16000000 in
theorem fitExprs_at : ∀ (k : Nat) (xs : List Ex), SizeOf.sizeOf xs < k → ∀ (w : World) (A : Option Addr) (cap : Nat), RowE w A xs cap → Calls Try.prog 54 #[.slice A xs.length cap] w fun e w' => e = .returned (.bool (fitEsB xs)) ∧ Below w.heap.size w w' := by
  intro k
  induction k with
  | zero => intro xs h; omega
  | succ k ih =>
    intro xs hsz w A cap hrow
    have HIH := Lib.hid ih
    have HR := Lib.hid hrow
    have hl := hrow.1
    have hc := hrow.2.1
    obtain ⟨n, hn⟩ : ∃ n, xs.length = n := ⟨_, rfl⟩
    rw [hn] at hl ⊢
    have HN := Lib.hid hn
    obtain ⟨res, hres⟩ : ∃ r, fitEsB xs = r := ⟨_, rfl⟩
    have HRES := Lib.hid hres
    rw [hres]
    clear ih hrow hn hres
    go_enter Try.func54, Try.ntmps54
    go_wp2_with fail
    go_loopw [3] (fun vi wr => ∃ (i : Nat), i ≤ n ∧ vi = .int .i64 i ∧ Hid (∀ j x, j < i → xs[j]? = some x → fitEB x = true) ∧ Below w.heap.size w wr) (fun vi _ => n - (intOf vi).toNat)
    case atStart => exact ⟨0, by omega, rfl, Lib.hid (fun j x hj => by omega), Below.refl _ _⟩
    case round =>
      obtain ⟨i, hi, rfl, HFI, hbr⟩ := hrel
      by_cases hlt : i < n
      · obtain ⟨bb, off, x, As, ks, rfl, hbl, hx, hat, hsub, hrng⟩ := RowE.at (HR.out.below hbr) (i := i) (by rw [HN.out]; exact hlt)
        have hi0 : (0 : Int) ≤ (i : Int) ∧ (i : Int) < (n : Int) := by omega
        have HX := Lib.hid hx
        have HRG := Lib.hid hrng
        have HAT := Lib.hid hat
        have HSB := Lib.hid hsub
        clear hx hrng hat hsub
        go_upto_region 5 with (first
          | refine wpList_load_mid rfl 39 _ rfl bb (off + i * 6) rfl (ExC x As ks) _ HRG.out Try.underlying39 rfl expr_size ?_
          | refine wpList_store_new rfl 39 _ _ rfl wr _ (ExC x As ks).toArray rfl rfl rfl expr_size rfl (exC_one x As ks) ?_)
        refine wp_name fun W hW => ?_
        obtain ⟨H, hH⟩ : ∃ H, H = wr.heap.size := ⟨_, rfl⟩
        rw [← hH]
        have hB : Below wr.heap.size wr W := by rw [hW.out]; (repeat' (first | (with_reducible exact Below.refl _ _) | (with_reducible assumption) | (with_reducible refine below_drewN ?_ _) | (with_reducible refine Below.drew ?_) | (with_reducible refine below_new ?_ (Nat.le_refl _) _) | (with_reducible refine Below.setCell ?_ ?_ _) | (with_reducible refine below_go ?_ (by assumption) (Nat.le_refl _)) | (simp; done) | (simp; omega) | omega))
        have hh : W.heap[H]? = some (.cells (ExC x As ks).toArray 39) := by rw [hW.out, hH]; exact heap_alloc_new _ _
        have HV := Lib.hid (EV.mk0 HAT.out HSB.out hB hh)
        have HB := Lib.hid (hbr.trans (hB.mono hbr.size))
        have hHl : H < W.heap.size := HV.out.lt
        have hWs := HB.out.size
        obtain ⟨op, hop⟩ : ∃ op, x.op = op := ⟨_, rfl⟩
        obtain ⟨nn, hnn⟩ : ∃ nn, x.n = nn := ⟨_, rfl⟩
        have HOP := Lib.hid hop
        have HNN := Lib.hid hnn
        have d0 : W.cell? ⟨H, 0, none⟩ = some (.int .i64 op) := by rw [← hop]; exact HV.out.cell 0 _ rfl
        have d1 : W.cell? ⟨H, 1, none⟩ = some (.int .i64 nn) := by rw [← hnn]; exact HV.out.cell 1 _ rfl
        have d2 : W.cell? ⟨H, 2, none⟩ = some (.string x.name) := HV.out.cell 2 _ rfl
        have d3 : W.cell? ⟨H, 3, none⟩ = some (.string x.field) := HV.out.cell 3 _ rfl
        have d4 : W.cell? ⟨H, 4, none⟩ = some (.slice As x.sub.length ks) := HV.out.cell 4 _ rfl
        clear hW hB hh hH hbr HAT HSB HRG hop hnn
        have HNO : Hid (fitEB x = false → res = false) := Lib.hid (fun h => by rw [← HRES.out]; exact fitEsB_no HX.out h)
        by_cases hlo : op < 1
        · have t1 : ¬ op = 1 := by omega
          have t2 : ¬ op = 2 := by omega
          have t3 : ¬ 2 < op := by omega
          have u1 : (op == 1) = false := by simp; omega
          have u2 : (op == 2) = false := by simp; omega
          have hr := HNO.out (fx_lo (by rw [HOP.out]; omega))
          subst hr
          clear HRES
          go_wp2
          go_ret
          exact ⟨rfl, HB.out⟩
        · by_cases hhi : 21 < op
          · have t1 : ¬ op = 1 := by omega
            have t2 : ¬ op = 2 := by omega
            have t3 : 2 < op := by omega
            have u1 : (op == 1) = false := by simp; omega
            have u2 : (op == 2) = false := by simp; omega
            by_cases hz : nn = 0
            · have hzB : (nn == 0) = true := by simp; omega
              have hr := HNO.out (fx_hi (by rw [HOP.out]; omega))
              subst hr
              clear HRES
              go_wp2
              go_ret
              exact ⟨rfl, HB.out⟩
            · have hzB : (nn == 0) = false := by simp; omega
              have hr := HNO.out (fx_hi (by rw [HOP.out]; omega))
              subst hr
              clear HRES
              go_wp2
              go_ret
              exact ⟨rfl, HB.out⟩
          · rcases (show op = 1 ∨ op = 2 ∨ 2 < op by omega) with hop | hop | hop
            · subst hop
              by_cases hneg : nn < 0
              · have hr := HNO.out (fx_num HOP.out (by rw [HNN.out]; exact hneg))
                subst hr
                clear HRES
                go_wp2
                go_ret
                exact ⟨rfl, HB.out⟩
              · as_aux_lemma =>
                  by_cases hs : x.sub.length = 0
                  · have HSL := Lib.hid hs
                    have hIH0 := fun w' h => HIH.out x.sub (by have := sub_lt HX.out; omega) w' As ks h
                    have hsE : x.sub = [] := List.eq_nil_of_length_eq_zero hs
                    simp only [hsE, List.length_nil] at hIH0
                    have HI0 := Lib.hid hIH0
                    clear hIH0
                    by_cases hq : x.name.toList = []
                    · have HNMn := Lib.hid hq
                      by_cases hq2 : x.field.toList = []
                      · have HNMf := Lib.hid hq2
                        obtain ⟨bs, hbs⟩ : ∃ r, fitEsB x.sub = r := ⟨_, rfl⟩
                        have HBS := Lib.hid hbs
                        have HI1 := HI0
                        rw [show fitEsB [] = bs from by rw [← hsE]; exact hbs] at HI1
                        clear hbs
                        go_wp2_with fail
                        refine (HI1.out _ (by have h := HV.out.sub; rw [hsE] at h; exact h)).mono ?_
                        rintro e w9 ⟨rfl, hb9⟩
                        have HB9 := Lib.hid (HB.out.trans (hb9.mono HB.out.size))
                        clear hb9
                        cases bs
                        · have hr := HNO.out (fx_rec HBS.out)
                          subst hr
                          clear HRES
                          go_wp2
                          go_ret
                          exact ⟨rfl, HB9.out⟩
                        · go_wp2
                          go_roundw
                          case rel =>
                            refine ⟨i + 1, by omega, by go_num, Lib.hid (fun j y hj hy => ?_), HB9.out⟩
                            rcases Nat.lt_succ_iff_lt_or_eq.1 hj with h | rfl
                            · exact HFI.out j y h hy
                            · rw [HX.out] at hy
                              cases hy
                              have e1 := HOP.out
                              have e2 := HNN.out
                              exact fx_yes (by omega) (by omega) (by omega) (by omega) (by rw [HSL.out, HOP.out]; rfl) (by rw [if_neg (by rw [HOP.out]; decide)]; exact decide_eq_true HNMn.out) (by rw [if_neg (by rw [HOP.out]; decide)]; exact decide_eq_true HNMf.out) HBS.out
                          case measure => simp [intOf]; omega
                      · have hr := HNO.out (fx_fd2 (by rw [HOP.out]; decide) hq2)
                        subst hr
                        clear HRES
                        go_wp2
                        go_ret
                        exact ⟨rfl, HB.out⟩
                    · have hr := HNO.out (fx_nm2 (by rw [HOP.out]; rfl) hq)
                      subst hr
                      clear HRES
                      go_wp2
                      go_ret
                      exact ⟨rfl, HB.out⟩
                  · have hsE : ¬ x.sub = [] := fun h => hs (by rw [h]; rfl)
                    have hr := HNO.out (fx_sub (fun h => hs (by rw [h, HOP.out]; rfl)))
                    subst hr
                    clear HRES
                    go_wp2
                    go_ret
                    exact ⟨rfl, HB.out⟩
            · subst hop
              by_cases hneg : nn < 0
              · have hr := HNO.out (fx_tr HOP.out (Or.inl (by rw [HNN.out]; exact hneg)))
                subst hr
                clear HRES
                go_wp2
                go_ret
                exact ⟨rfl, HB.out⟩
              · by_cases hbig : 1 < nn
                · have hr := HNO.out (fx_tr HOP.out (Or.inr (by rw [HNN.out]; exact hbig)))
                  subst hr
                  clear HRES
                  go_wp2
                  go_ret
                  exact ⟨rfl, HB.out⟩
                · as_aux_lemma =>
                    by_cases hs : x.sub.length = 0
                    · have HSL := Lib.hid hs
                      have hIH0 := fun w' h => HIH.out x.sub (by have := sub_lt HX.out; omega) w' As ks h
                      have hsE : x.sub = [] := List.eq_nil_of_length_eq_zero hs
                      simp only [hsE, List.length_nil] at hIH0
                      have HI0 := Lib.hid hIH0
                      clear hIH0
                      by_cases hq : x.name.toList = []
                      · have HNMn := Lib.hid hq
                        by_cases hq2 : x.field.toList = []
                        · have HNMf := Lib.hid hq2
                          obtain ⟨bs, hbs⟩ : ∃ r, fitEsB x.sub = r := ⟨_, rfl⟩
                          have HBS := Lib.hid hbs
                          have HI1 := HI0
                          rw [show fitEsB [] = bs from by rw [← hsE]; exact hbs] at HI1
                          clear hbs
                          go_wp2_with fail
                          refine (HI1.out _ (by have h := HV.out.sub; rw [hsE] at h; exact h)).mono ?_
                          rintro e w9 ⟨rfl, hb9⟩
                          have HB9 := Lib.hid (HB.out.trans (hb9.mono HB.out.size))
                          clear hb9
                          cases bs
                          · have hr := HNO.out (fx_rec HBS.out)
                            subst hr
                            clear HRES
                            go_wp2
                            go_ret
                            exact ⟨rfl, HB9.out⟩
                          · go_wp2
                            go_roundw
                            case rel =>
                              refine ⟨i + 1, by omega, by go_num, Lib.hid (fun j y hj hy => ?_), HB9.out⟩
                              rcases Nat.lt_succ_iff_lt_or_eq.1 hj with h | rfl
                              · exact HFI.out j y h hy
                              · rw [HX.out] at hy
                                cases hy
                                have e1 := HOP.out
                                have e2 := HNN.out
                                exact fx_yes (by omega) (by omega) (by omega) (by omega) (by rw [HSL.out, HOP.out]; rfl) (by rw [if_neg (by rw [HOP.out]; decide)]; exact decide_eq_true HNMn.out) (by rw [if_neg (by rw [HOP.out]; decide)]; exact decide_eq_true HNMf.out) HBS.out
                            case measure => simp [intOf]; omega
                        · have hr := HNO.out (fx_fd2 (by rw [HOP.out]; decide) hq2)
                          subst hr
                          clear HRES
                          go_wp2
                          go_ret
                          exact ⟨rfl, HB.out⟩
                      · have hr := HNO.out (fx_nm2 (by rw [HOP.out]; rfl) hq)
                        subst hr
                        clear HRES
                        go_wp2
                        go_ret
                        exact ⟨rfl, HB.out⟩
                    · have hsE : ¬ x.sub = [] := fun h => hs (by rw [h]; rfl)
                      have hr := HNO.out (fx_sub (fun h => hs (by rw [h, HOP.out]; rfl)))
                      subst hr
                      clear HRES
                      go_wp2
                      go_ret
                      exact ⟨rfl, HB.out⟩
            · by_cases hz : nn = 0
              · obtain rfl := hz
                rcases (show op = 3 ∨ op = 4 ∨ op = 5 ∨ op = 6 ∨ op = 7 ∨ 7 < op by omega) with rfl | rfl | rfl | rfl | rfl | hbig
                · as_aux_lemma =>
                    by_cases hs : x.sub.length = 0
                    · have HSL := Lib.hid hs
                      have hIH0 := fun w' h => HIH.out x.sub (by have := sub_lt HX.out; omega) w' As ks h
                      have hsE : x.sub = [] := List.eq_nil_of_length_eq_zero hs
                      simp only [hsE, List.length_nil] at hIH0
                      have HI0 := Lib.hid hIH0
                      clear hIH0
                      go_wp2_with fail
                      obtain ⟨bn, hnmn⟩ : ∃ r, nameB x.name = r := ⟨_, rfl⟩
                      have HNIn := Lib.hid (fun w => name_is x.name w)
                      rw [hnmn] at HNIn
                      refine (HNIn.out _).mono ?_
                      rintro e wn ⟨rfl, hbn⟩
                      have HVn := Lib.hid (HV.out.below hbn)
                      have HBn := Lib.hid (HB.out.trans (hbn.mono HB.out.size))
                      have hHln : H < wn.heap.size := HVn.out.lt
                      have HNMn := Lib.hid hnmn
                      clear hnmn hbn d2 d3 d4
                      try clear d0 d1
                      have d2 : wn.cell? ⟨H, 2, none⟩ = some (.string x.name) := HVn.out.cell 2 _ rfl
                      have d3 : wn.cell? ⟨H, 3, none⟩ = some (.string x.field) := HVn.out.cell 3 _ rfl
                      have d4 : wn.cell? ⟨H, 4, none⟩ = some (.slice As x.sub.length ks) := HVn.out.cell 4 _ rfl
                      cases bn
                      · have hr := HNO.out (fx_nm1 (by rw [HOP.out]; rfl) HNMn.out)
                        subst hr
                        clear HRES
                        go_wp2
                        go_ret
                        exact ⟨rfl, HBn.out⟩
                      · by_cases hq2 : x.field.toList = []
                        · have HNMf := Lib.hid hq2
                          obtain ⟨bs, hbs⟩ : ∃ r, fitEsB x.sub = r := ⟨_, rfl⟩
                          have HBS := Lib.hid hbs
                          have HI1 := HI0
                          rw [show fitEsB [] = bs from by rw [← hsE]; exact hbs] at HI1
                          clear hbs
                          go_wp2_with fail
                          refine (HI1.out _ (by have h := HVn.out.sub; rw [hsE] at h; exact h)).mono ?_
                          rintro e w9 ⟨rfl, hb9⟩
                          have HB9 := Lib.hid (HBn.out.trans (hb9.mono HBn.out.size))
                          clear hb9
                          cases bs
                          · have hr := HNO.out (fx_rec HBS.out)
                            subst hr
                            clear HRES
                            go_wp2
                            go_ret
                            exact ⟨rfl, HB9.out⟩
                          · go_wp2
                            go_roundw
                            case rel =>
                              refine ⟨i + 1, by omega, by go_num, Lib.hid (fun j y hj hy => ?_), HB9.out⟩
                              rcases Nat.lt_succ_iff_lt_or_eq.1 hj with h | rfl
                              · exact HFI.out j y h hy
                              · rw [HX.out] at hy
                                cases hy
                                have e1 := HOP.out
                                have e2 := HNN.out
                                exact fx_yes (by omega) (by omega) (by omega) (by omega) (by rw [HSL.out, HOP.out]; rfl) (by rw [if_pos (by rw [HOP.out]; rfl)]; exact HNMn.out) (by rw [if_neg (by rw [HOP.out]; decide)]; exact decide_eq_true HNMf.out) HBS.out
                            case measure => simp [intOf]; omega
                        · have hr := HNO.out (fx_fd2 (by rw [HOP.out]; decide) hq2)
                          subst hr
                          clear HRES
                          go_wp2
                          go_ret
                          exact ⟨rfl, HBn.out⟩
                    · have hsE : ¬ x.sub = [] := fun h => hs (by rw [h]; rfl)
                      have hr := HNO.out (fx_sub (fun h => hs (by rw [h, HOP.out]; rfl)))
                      subst hr
                      clear HRES
                      go_wp2
                      go_ret
                      exact ⟨rfl, HB.out⟩
                · as_aux_lemma =>
                    by_cases hs : x.sub.length = 1
                    · have HSL := Lib.hid hs
                      have hIH0 := fun w' h => HIH.out x.sub (by have := sub_lt HX.out; omega) w' As ks h
                      have hsI : (x.sub.length : Int) = 1 := by omega
                      simp only [hs] at hIH0
                      have HI0 := Lib.hid hIH0
                      clear hIH0
                      go_wp2_with fail
                      obtain ⟨bn, hnmn⟩ : ∃ r, nameB x.name = r := ⟨_, rfl⟩
                      have HNIn := Lib.hid (fun w => name_is x.name w)
                      rw [hnmn] at HNIn
                      refine (HNIn.out _).mono ?_
                      rintro e wn ⟨rfl, hbn⟩
                      have HVn := Lib.hid (HV.out.below hbn)
                      have HBn := Lib.hid (HB.out.trans (hbn.mono HB.out.size))
                      have hHln : H < wn.heap.size := HVn.out.lt
                      have HNMn := Lib.hid hnmn
                      clear hnmn hbn d2 d3 d4
                      try clear d0 d1
                      have d2 : wn.cell? ⟨H, 2, none⟩ = some (.string x.name) := HVn.out.cell 2 _ rfl
                      have d3 : wn.cell? ⟨H, 3, none⟩ = some (.string x.field) := HVn.out.cell 3 _ rfl
                      have d4 : wn.cell? ⟨H, 4, none⟩ = some (.slice As x.sub.length ks) := HVn.out.cell 4 _ rfl
                      cases bn
                      · have hr := HNO.out (fx_nm1 (by rw [HOP.out]; rfl) HNMn.out)
                        subst hr
                        clear HRES
                        go_wp2
                        go_ret
                        exact ⟨rfl, HBn.out⟩
                      · by_cases hq2 : x.field.toList = []
                        · have HNMf := Lib.hid hq2
                          obtain ⟨bs, hbs⟩ : ∃ r, fitEsB x.sub = r := ⟨_, rfl⟩
                          have HBS := Lib.hid hbs
                          have HI1 := HI0
                          rw [show fitEsB x.sub = bs from hbs] at HI1
                          clear hbs
                          go_wp2_with fail
                          refine (HI1.out _ HVn.out.sub).mono ?_
                          rintro e w9 ⟨rfl, hb9⟩
                          have HB9 := Lib.hid (HBn.out.trans (hb9.mono HBn.out.size))
                          clear hb9
                          cases bs
                          · have hr := HNO.out (fx_rec HBS.out)
                            subst hr
                            clear HRES
                            go_wp2
                            go_ret
                            exact ⟨rfl, HB9.out⟩
                          · go_wp2
                            go_roundw
                            case rel =>
                              refine ⟨i + 1, by omega, by go_num, Lib.hid (fun j y hj hy => ?_), HB9.out⟩
                              rcases Nat.lt_succ_iff_lt_or_eq.1 hj with h | rfl
                              · exact HFI.out j y h hy
                              · rw [HX.out] at hy
                                cases hy
                                have e1 := HOP.out
                                have e2 := HNN.out
                                exact fx_yes (by omega) (by omega) (by omega) (by omega) (by rw [HSL.out, HOP.out]; rfl) (by rw [if_pos (by rw [HOP.out]; rfl)]; exact HNMn.out) (by rw [if_neg (by rw [HOP.out]; decide)]; exact decide_eq_true HNMf.out) HBS.out
                            case measure => simp [intOf]; omega
                        · have hr := HNO.out (fx_fd2 (by rw [HOP.out]; decide) hq2)
                          subst hr
                          clear HRES
                          go_wp2
                          go_ret
                          exact ⟨rfl, HBn.out⟩
                    · have hsI : ¬ (x.sub.length : Int) = 1 := by omega
                      have hr := HNO.out (fx_sub (fun h => hs (by rw [h, HOP.out]; rfl)))
                      subst hr
                      clear HRES
                      go_wp2
                      go_ret
                      exact ⟨rfl, HB.out⟩
                · as_aux_lemma =>
                    by_cases hs : x.sub.length = 0
                    · have HSL := Lib.hid hs
                      have hIH0 := fun w' h => HIH.out x.sub (by have := sub_lt HX.out; omega) w' As ks h
                      have hsE : x.sub = [] := List.eq_nil_of_length_eq_zero hs
                      simp only [hsE, List.length_nil] at hIH0
                      have HI0 := Lib.hid hIH0
                      clear hIH0
                      go_wp2_with fail
                      obtain ⟨bn, hnmn⟩ : ∃ r, nameB x.name = r := ⟨_, rfl⟩
                      have HNIn := Lib.hid (fun w => name_is x.name w)
                      rw [hnmn] at HNIn
                      refine (HNIn.out _).mono ?_
                      rintro e wn ⟨rfl, hbn⟩
                      have HVn := Lib.hid (HV.out.below hbn)
                      have HBn := Lib.hid (HB.out.trans (hbn.mono HB.out.size))
                      have hHln : H < wn.heap.size := HVn.out.lt
                      have HNMn := Lib.hid hnmn
                      clear hnmn hbn d2 d3 d4
                      try clear d0 d1
                      have d2 : wn.cell? ⟨H, 2, none⟩ = some (.string x.name) := HVn.out.cell 2 _ rfl
                      have d3 : wn.cell? ⟨H, 3, none⟩ = some (.string x.field) := HVn.out.cell 3 _ rfl
                      have d4 : wn.cell? ⟨H, 4, none⟩ = some (.slice As x.sub.length ks) := HVn.out.cell 4 _ rfl
                      cases bn
                      · have hr := HNO.out (fx_nm1 (by rw [HOP.out]; rfl) HNMn.out)
                        subst hr
                        clear HRES
                        go_wp2
                        go_ret
                        exact ⟨rfl, HBn.out⟩
                      · go_wp2_with fail
                        obtain ⟨bf, hnmf⟩ : ∃ r, nameB x.field = r := ⟨_, rfl⟩
                        have HNIf := Lib.hid (fun w => name_is x.field w)
                        rw [hnmf] at HNIf
                        refine (HNIf.out _).mono ?_
                        rintro e wf ⟨rfl, hbf⟩
                        have HVf := Lib.hid (HVn.out.below hbf)
                        have HBf := Lib.hid (HBn.out.trans (hbf.mono HBn.out.size))
                        have hHlf : H < wf.heap.size := HVf.out.lt
                        have HNMf := Lib.hid hnmf
                        clear hnmf hbf d2 d3 d4
                        try clear d0 d1
                        have d2 : wf.cell? ⟨H, 2, none⟩ = some (.string x.name) := HVf.out.cell 2 _ rfl
                        have d3 : wf.cell? ⟨H, 3, none⟩ = some (.string x.field) := HVf.out.cell 3 _ rfl
                        have d4 : wf.cell? ⟨H, 4, none⟩ = some (.slice As x.sub.length ks) := HVf.out.cell 4 _ rfl
                        cases bf
                        · have hr := HNO.out (fx_fd1 HOP.out HNMf.out)
                          subst hr
                          clear HRES
                          go_wp2
                          go_ret
                          exact ⟨rfl, HBf.out⟩
                        · obtain ⟨bs, hbs⟩ : ∃ r, fitEsB x.sub = r := ⟨_, rfl⟩
                          have HBS := Lib.hid hbs
                          have HI1 := HI0
                          rw [show fitEsB [] = bs from by rw [← hsE]; exact hbs] at HI1
                          clear hbs
                          go_wp2_with fail
                          refine (HI1.out _ (by have h := HVf.out.sub; rw [hsE] at h; exact h)).mono ?_
                          rintro e w9 ⟨rfl, hb9⟩
                          have HB9 := Lib.hid (HBf.out.trans (hb9.mono HBf.out.size))
                          clear hb9
                          cases bs
                          · have hr := HNO.out (fx_rec HBS.out)
                            subst hr
                            clear HRES
                            go_wp2
                            go_ret
                            exact ⟨rfl, HB9.out⟩
                          · go_wp2
                            go_roundw
                            case rel =>
                              refine ⟨i + 1, by omega, by go_num, Lib.hid (fun j y hj hy => ?_), HB9.out⟩
                              rcases Nat.lt_succ_iff_lt_or_eq.1 hj with h | rfl
                              · exact HFI.out j y h hy
                              · rw [HX.out] at hy
                                cases hy
                                have e1 := HOP.out
                                have e2 := HNN.out
                                exact fx_yes (by omega) (by omega) (by omega) (by omega) (by rw [HSL.out, HOP.out]; rfl) (by rw [if_pos (by rw [HOP.out]; rfl)]; exact HNMn.out) (by rw [if_pos HOP.out]; exact HNMf.out) HBS.out
                            case measure => simp [intOf]; omega
                    · have hsE : ¬ x.sub = [] := fun h => hs (by rw [h]; rfl)
                      have hr := HNO.out (fx_sub (fun h => hs (by rw [h, HOP.out]; rfl)))
                      subst hr
                      clear HRES
                      go_wp2
                      go_ret
                      exact ⟨rfl, HB.out⟩
                · as_aux_lemma =>
                    by_cases hs : x.sub.length = 1
                    · have HSL := Lib.hid hs
                      have hIH0 := fun w' h => HIH.out x.sub (by have := sub_lt HX.out; omega) w' As ks h
                      have hsI : (x.sub.length : Int) = 1 := by omega
                      simp only [hs] at hIH0
                      have HI0 := Lib.hid hIH0
                      clear hIH0
                      by_cases hq : x.name.toList = []
                      · have HNMn := Lib.hid hq
                        by_cases hq2 : x.field.toList = []
                        · have HNMf := Lib.hid hq2
                          obtain ⟨bs, hbs⟩ : ∃ r, fitEsB x.sub = r := ⟨_, rfl⟩
                          have HBS := Lib.hid hbs
                          have HI1 := HI0
                          rw [show fitEsB x.sub = bs from hbs] at HI1
                          clear hbs
                          go_wp2_with fail
                          refine (HI1.out _ HV.out.sub).mono ?_
                          rintro e w9 ⟨rfl, hb9⟩
                          have HB9 := Lib.hid (HB.out.trans (hb9.mono HB.out.size))
                          clear hb9
                          cases bs
                          · have hr := HNO.out (fx_rec HBS.out)
                            subst hr
                            clear HRES
                            go_wp2
                            go_ret
                            exact ⟨rfl, HB9.out⟩
                          · go_wp2
                            go_roundw
                            case rel =>
                              refine ⟨i + 1, by omega, by go_num, Lib.hid (fun j y hj hy => ?_), HB9.out⟩
                              rcases Nat.lt_succ_iff_lt_or_eq.1 hj with h | rfl
                              · exact HFI.out j y h hy
                              · rw [HX.out] at hy
                                cases hy
                                have e1 := HOP.out
                                have e2 := HNN.out
                                exact fx_yes (by omega) (by omega) (by omega) (by omega) (by rw [HSL.out, HOP.out]; rfl) (by rw [if_neg (by rw [HOP.out]; decide)]; exact decide_eq_true HNMn.out) (by rw [if_neg (by rw [HOP.out]; decide)]; exact decide_eq_true HNMf.out) HBS.out
                            case measure => simp [intOf]; omega
                        · have hr := HNO.out (fx_fd2 (by rw [HOP.out]; decide) hq2)
                          subst hr
                          clear HRES
                          go_wp2
                          go_ret
                          exact ⟨rfl, HB.out⟩
                      · have hr := HNO.out (fx_nm2 (by rw [HOP.out]; rfl) hq)
                        subst hr
                        clear HRES
                        go_wp2
                        go_ret
                        exact ⟨rfl, HB.out⟩
                    · have hsI : ¬ (x.sub.length : Int) = 1 := by omega
                      have hr := HNO.out (fx_sub (fun h => hs (by rw [h, HOP.out]; rfl)))
                      subst hr
                      clear HRES
                      go_wp2
                      go_ret
                      exact ⟨rfl, HB.out⟩
                · as_aux_lemma =>
                    by_cases hs : x.sub.length = 1
                    · have HSL := Lib.hid hs
                      have hIH0 := fun w' h => HIH.out x.sub (by have := sub_lt HX.out; omega) w' As ks h
                      have hsI : (x.sub.length : Int) = 1 := by omega
                      simp only [hs] at hIH0
                      have HI0 := Lib.hid hIH0
                      clear hIH0
                      by_cases hq : x.name.toList = []
                      · have HNMn := Lib.hid hq
                        by_cases hq2 : x.field.toList = []
                        · have HNMf := Lib.hid hq2
                          obtain ⟨bs, hbs⟩ : ∃ r, fitEsB x.sub = r := ⟨_, rfl⟩
                          have HBS := Lib.hid hbs
                          have HI1 := HI0
                          rw [show fitEsB x.sub = bs from hbs] at HI1
                          clear hbs
                          go_wp2_with fail
                          refine (HI1.out _ HV.out.sub).mono ?_
                          rintro e w9 ⟨rfl, hb9⟩
                          have HB9 := Lib.hid (HB.out.trans (hb9.mono HB.out.size))
                          clear hb9
                          cases bs
                          · have hr := HNO.out (fx_rec HBS.out)
                            subst hr
                            clear HRES
                            go_wp2
                            go_ret
                            exact ⟨rfl, HB9.out⟩
                          · go_wp2
                            go_roundw
                            case rel =>
                              refine ⟨i + 1, by omega, by go_num, Lib.hid (fun j y hj hy => ?_), HB9.out⟩
                              rcases Nat.lt_succ_iff_lt_or_eq.1 hj with h | rfl
                              · exact HFI.out j y h hy
                              · rw [HX.out] at hy
                                cases hy
                                have e1 := HOP.out
                                have e2 := HNN.out
                                exact fx_yes (by omega) (by omega) (by omega) (by omega) (by rw [HSL.out, HOP.out]; rfl) (by rw [if_neg (by rw [HOP.out]; decide)]; exact decide_eq_true HNMn.out) (by rw [if_neg (by rw [HOP.out]; decide)]; exact decide_eq_true HNMf.out) HBS.out
                            case measure => simp [intOf]; omega
                        · have hr := HNO.out (fx_fd2 (by rw [HOP.out]; decide) hq2)
                          subst hr
                          clear HRES
                          go_wp2
                          go_ret
                          exact ⟨rfl, HB.out⟩
                      · have hr := HNO.out (fx_nm2 (by rw [HOP.out]; rfl) hq)
                        subst hr
                        clear HRES
                        go_wp2
                        go_ret
                        exact ⟨rfl, HB.out⟩
                    · have hsI : ¬ (x.sub.length : Int) = 1 := by omega
                      have hr := HNO.out (fx_sub (fun h => hs (by rw [h, HOP.out]; rfl)))
                      subst hr
                      clear HRES
                      go_wp2
                      go_ret
                      exact ⟨rfl, HB.out⟩
                · as_aux_lemma =>
                    have t1 : ¬ op = 1 := by omega
                    have t2 : ¬ op = 2 := by omega
                    have t3 : ¬ op = 3 := by omega
                    have t4 : ¬ op = 4 := by omega
                    have t5 : ¬ op = 5 := by omega
                    have t6 : ¬ op = 6 := by omega
                    have t7 : ¬ op = 7 := by omega
                    have t8 : 2 < op := by omega
                    have t9 : ¬ op < 1 := by omega
                    have t10 : ¬ 21 < op := by omega
                    have t11 : 7 < op := by omega
                    have u1 : (op == 1) = false := by simp; omega
                    have u2 : (op == 2) = false := by simp; omega
                    have u3 : (op == 3) = false := by simp; omega
                    have u4 : (op == 4) = false := by simp; omega
                    have u5 : (op == 5) = false := by simp; omega
                    have u6 : (op == 6) = false := by simp; omega
                    have u7 : (op == 7) = false := by simp; omega
                    by_cases hs : x.sub.length = 2
                    · have HSL := Lib.hid hs
                      have hIH0 := fun w' h => HIH.out x.sub (by have := sub_lt HX.out; omega) w' As ks h
                      have hsI : (x.sub.length : Int) = 2 := by omega
                      simp only [hs] at hIH0
                      have HI0 := Lib.hid hIH0
                      clear hIH0
                      by_cases hq : x.name.toList = []
                      · have HNMn := Lib.hid hq
                        by_cases hq2 : x.field.toList = []
                        · have HNMf := Lib.hid hq2
                          obtain ⟨bs, hbs⟩ : ∃ r, fitEsB x.sub = r := ⟨_, rfl⟩
                          have HBS := Lib.hid hbs
                          have HI1 := HI0
                          rw [show fitEsB x.sub = bs from hbs] at HI1
                          clear hbs
                          go_wp2_with fail
                          refine (HI1.out _ HV.out.sub).mono ?_
                          rintro e w9 ⟨rfl, hb9⟩
                          have HB9 := Lib.hid (HB.out.trans (hb9.mono HB.out.size))
                          clear hb9
                          cases bs
                          · have hr := HNO.out (fx_rec HBS.out)
                            subst hr
                            clear HRES
                            go_wp2
                            go_ret
                            exact ⟨rfl, HB9.out⟩
                          · go_wp2
                            go_roundw
                            case rel =>
                              refine ⟨i + 1, by omega, by go_num, Lib.hid (fun j y hj hy => ?_), HB9.out⟩
                              rcases Nat.lt_succ_iff_lt_or_eq.1 hj with h | rfl
                              · exact HFI.out j y h hy
                              · rw [HX.out] at hy
                                cases hy
                                have e1 := HOP.out
                                have e2 := HNN.out
                                exact fx_yes (by omega) (by omega) (by omega) (by omega) (by rw [HSL.out, HOP.out]; unfold subsN; rw [if_neg (by omega), if_pos (by omega)]) (by rw [if_neg (by rw [HOP.out]; unfold namedX; simp; omega)]; exact decide_eq_true HNMn.out) (by rw [if_neg (by rw [HOP.out]; omega)]; exact decide_eq_true HNMf.out) HBS.out
                            case measure => simp [intOf]; omega
                        · have hr := HNO.out (fx_fd2 (by rw [HOP.out]; omega) hq2)
                          subst hr
                          clear HRES
                          go_wp2
                          go_ret
                          exact ⟨rfl, HB.out⟩
                      · have hr := HNO.out (fx_nm2 (by rw [HOP.out]; unfold namedX; simp; omega) hq)
                        subst hr
                        clear HRES
                        go_wp2
                        go_ret
                        exact ⟨rfl, HB.out⟩
                    · have hsI : ¬ (x.sub.length : Int) = 2 := by omega
                      have hr := HNO.out (fx_sub (fun h => hs (by rw [h, HOP.out]; unfold subsN; rw [if_neg (by omega), if_pos (by omega)])))
                      subst hr
                      clear HRES
                      go_wp2
                      go_ret
                      exact ⟨rfl, HB.out⟩
              · have hzB : (nn == 0) = false := by simp; omega
                have u1 : (op == 1) = false := by simp; omega
                have u2 : (op == 2) = false := by simp; omega
                have hr := HNO.out (fx_zero (by rw [HOP.out]; omega) (by rw [HNN.out]; exact hz))
                subst hr
                clear HRES
                go_wp2
                go_ret
                exact ⟨rfl, HB.out⟩
      · obtain rfl : i = n := by omega
        have hr : res = true := by
          rw [← HRES.out]
          exact fitEsB_yes fun j x hj => HFI.out j x (by have := (List.getElem?_eq_some_iff.1 hj).1; rw [HN.out] at this; exact this) hj
        subst hr
        clear HRES
        go_wp2
        go_ret
        exact ⟨rfl, hbr⟩

theorem fitExprs_is (xs : List Ex) (w : World) (A : Option Addr) (cap : Nat) (h : RowE w A xs cap) : Calls Try.prog 54 #[.slice A xs.length cap] w fun e w' => e = .returned (.bool (fitEsB xs)) ∧ Below w.heap.size w w' :=
  fitExprs_at _ xs (Nat.lt_succ_self _) w A cap h

end Go.Proofs.Ytcamegfnhbbaeaa
