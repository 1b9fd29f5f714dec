/- Contracts of layer 10: a window, shifted: the loop. -/
import Derived.Test.YtddakmlnkffgiaaSmQ
namespace Go.Proofs.Ytddakmlnkffgiaa
open Go.RowKit
set_option linter.unusedVariables false
set_option linter.unusedSimpArgs false
attribute [local go_sem] ite_max ite_min vite_max vite_min ext_cell ext_frozen

/-- the numbers behind a shift that is not too far -/
def shR (zs : List Int) (n : Nat) (d : Int) : List Int := bif rightW (shW zs n d) n then shW zs n d else zs
theorem shR_yes {zs : List Int} {n : Nat} {d : Int} (h : rightW (shW zs n d) n = true) : shR zs n d = shW zs n d := by unfold shR; rw [h]; rfl
theorem shR_no {zs : List Int} {n : Nat} {d : Int} (h : rightW (shW zs n d) n = false) : shR zs n d = zs := by unfold shR; rw [h]; rfl

set_option maxRecDepth 100000 in
set_option maxHeartbeats 4000000 in
theorem sm_shift_in (zs : List Int) (g off n k : Nat) (d : Int) (w : World) (h : AtW w zs n g off k) (hr : rightW zs n = true) (hf : farB d = true) :
    Calls Try.prog 51 #[.agg #[.slice (some ⟨g, off, none⟩) n k], .int .i64 d] w fun e w' => ∃ g' k', e = .returned (.agg #[.slice (some ⟨g', 0, none⟩) n k']) ∧ w.heap.size ≤ g' ∧ Below w.heap.size w w' ∧ Hid (OnW w' (shR zs n d) n g' k') := by
  have hinf : (Try.prog.info? 2).map (fun i => (i.zero, i.size, i.bytes)) = some (some (.int .i64 0), 1, 8) := by kernel_rfl
  obtain ⟨i0, hi0, hz0, hz1, hz2⟩ := info_parts hinf
  have HI := Lib.hid hi0
  have HZ0 := Lib.hid hz0
  have HZ1 := Lib.hid hz1
  have HZ2 := Lib.hid hz2
  have H := Lib.hid h
  have hgl := h.gl
  have hcap := h.km
  have hnk0 := h.nk
  have HR := Lib.hid hr
  have hd : -4398046511104 ≤ d ∧ d ≤ 4398046511104 := of_decide_eq_true hf
  have hnb : 1 ≤ n ∧ n ≤ 16 := ⟨(rightW_yes hr).1, (rightW_yes hr).2.1⟩
  clear h hr hf hi0 hz0 hz1 hz2 hinf
  go_enter Try.func51, Try.ntmps51
  go_wp2_with fail
  refine (sm_clone_at zs g off n k _ (by omega) (fun i hi => ?_)).mono ?_
  · have := H.out.cs i hi
    go_simp
  rintro e w1 ⟨g1, k1, cur, rfl, hg, hgc, hnk, hkm, hck, hct, hb1⟩
  have hg2 : w.heap.size + 1 + 1 ≤ g1 := by simpa using hg
  have hgl1 : g1 < w1.heap.size := (Array.getElem?_eq_some_iff.1 hgc.out).1
  have o1 : OnW w1 zs n g1 k1 := by
    obtain ⟨g', k', he, _, o⟩ := OnW.of_win (B := 0) (zs := zs) (n := n) (w := w1) (v := .agg #[.slice (some ⟨g1, 0, none⟩) n k1]) ⟨g1, k1, cur, rfl, Nat.zero_le _, hgc, hnk, hkm, hck, hct⟩
    simp at he
    obtain ⟨rfl, rfl⟩ := he
    exact o
  have HO1 := Lib.hid o1
  clear hgc hct o1
  obtain ⟨hb1c, hb1f⟩ := bcell hb1
  have hb1z := hb1.size
  have hb1c0 := fun o => hb1c (w.heap.size) o (by first | (simp; done) | (simp; omega) | (simp at *; omega) | omega)
  have hb1f0 := fun o => hb1f (w.heap.size) o (by first | (simp; done) | (simp; omega) | (simp at *; omega) | omega)
  have hb1l0 := below_lt (b := w.heap.size) hb1 (by first | (simp; done) | (simp; omega) | (simp at *; omega) | omega)
  have hb1c1 := fun o => hb1c (w.heap.size + 1) o (by first | (simp; done) | (simp; omega) | (simp at *; omega) | omega)
  have hb1f1 := fun o => hb1f (w.heap.size + 1) o (by first | (simp; done) | (simp; omega) | (simp at *; omega) | omega)
  have hb1l1 := below_lt (b := w.heap.size + 1) hb1 (by first | (simp; done) | (simp; omega) | (simp at *; omega) | omega)
  have hb1c2 := fun o => hb1c (g) o (by first | (simp; done) | (simp; omega) | (simp at *; omega) | omega)
  have hb1f2 := fun o => hb1f (g) o (by first | (simp; done) | (simp; omega) | (simp at *; omega) | omega)
  have hb1l2 := below_lt (b := g) hb1 (by first | (simp; done) | (simp; omega) | (simp at *; omega) | omega)
  have hB1 : Below w.heap.size w w1 := by (repeat' (first | (with_reducible exact Below.refl _ _) | (with_reducible assumption) | (with_reducible refine below_drewN ?_ _) | (with_reducible refine Below.drew ?_) | (with_reducible refine below_new ?_ (Nat.le_refl _) _) | (with_reducible refine Below.setCell ?_ ?_ _) | (with_reducible refine below_go ?_ (by assumption) (Nat.le_refl _)) | (simp; done) | (simp; omega) | omega))
  have hw1l : w.heap.size + 1 < w1.heap.size := by omega
  go_wp2_with fail
  refine (sm_right_a zs g off n k true _ (H.out.below ?bb) HR.out).mono ?_
  case bb => (repeat' (first | (with_reducible exact Below.refl _ _) | (with_reducible assumption) | (with_reducible refine below_drewN ?_ _) | (with_reducible refine Below.drew ?_) | (with_reducible refine below_new ?_ (Nat.le_refl _) _) | (with_reducible refine Below.setCell ?_ ?_ _) | (with_reducible refine below_go ?_ (by assumption) (Nat.le_refl _)) | (simp; done) | (simp; omega) | omega))
  rintro e w2 ⟨rfl, hb2⟩
  have hz2 : w1.heap.size + 1 ≤ w2.heap.size := by have := hb2.size; simpa using this
  have hO2 : OnW w2 zs n g1 k1 := HO1.out.below (by (repeat' (first | (with_reducible exact Below.refl _ _) | (with_reducible assumption) | (with_reducible refine below_drewN ?_ _) | (with_reducible refine Below.drew ?_) | (with_reducible refine below_new ?_ (Nat.le_refl _) _) | (with_reducible refine Below.setCell ?_ ?_ _) | (with_reducible refine below_go ?_ (by assumption) (Nat.le_refl _)) | (simp; done) | (simp; omega) | omega)))
  have hH2 : AtW w2 zs n g off k := H.out.below (by (repeat' (first | (with_reducible exact Below.refl _ _) | (with_reducible assumption) | (with_reducible refine below_drewN ?_ _) | (with_reducible refine Below.drew ?_) | (with_reducible refine below_new ?_ (Nat.le_refl _) _) | (with_reducible refine Below.setCell ?_ ?_ _) | (with_reducible refine below_go ?_ (by assumption) (Nat.le_refl _)) | (simp; done) | (simp; omega) | omega)))
  have hB2 : Below w.heap.size w w2 := by (repeat' (first | (with_reducible exact Below.refl _ _) | (with_reducible assumption) | (with_reducible refine below_drewN ?_ _) | (with_reducible refine Below.drew ?_) | (with_reducible refine below_new ?_ (Nat.le_refl _) _) | (with_reducible refine Below.setCell ?_ ?_ _) | (with_reducible refine below_go ?_ (by assumption) (Nat.le_refl _)) | (simp; done) | (simp; omega) | omega))
  have c0 : w2.cell? ⟨w.heap.size, 0, none⟩ = some (.slice (some ⟨g, off, none⟩) n k) := by
    rw [hb2.cell (p := ⟨w.heap.size, 0, none⟩) (by simp; omega)]
    go_simp
  have c1 : w2.cell? ⟨w.heap.size + 1, 0, none⟩ = some (.slice none 0 0) := by
    rw [hb2.cell (p := ⟨w.heap.size + 1, 0, none⟩) (by simp; omega)]
    go_simp
  have f1 : w2.frozen? ⟨w.heap.size + 1, 0, none⟩ = false := by
    rw [hb2.frozen (p := ⟨w.heap.size + 1, 0, none⟩) (by simp; omega)]
    go_simp
  have c5 : w2.cell? ⟨w1.heap.size, 0, none⟩ = some (.slice (some ⟨g1, 0, none⟩) n k1) := by
    rw [hb2.cell (p := ⟨w1.heap.size, 0, none⟩) (by simp)]
    go_simp
  have HO2 := Lib.hid hO2
  have HH2 := Lib.hid hH2
  have hnI : (1 : Int) ≤ (n : Int) ∧ (n : Int) ≤ 16 := by omega
  have hl0 : w.heap.size < w2.heap.size := by omega
  have hl1 : w.heap.size + 1 < w2.heap.size := by omega
  have hl5 : w1.heap.size < w2.heap.size := by omega
  clear hO2 hH2 hb2 hb1c hb1f hb1z hb1c0 hb1f0 hb1l0 hb1c1 hb1f1 hb1l1 hb1c2 hb1f2 hb1l2 HO1
  go_wp2_with fail
  go_loopw [29] (fun i w' => ∃ (j : Nat) (v : Value), j ≤ n ∧ i = .int .i64 (j : Int) ∧ w'.cell? ⟨w2.heap.size, 0, none⟩ = some v ∧ w'.frozen? ⟨w2.heap.size, 0, none⟩ = false ∧ w2.heap.size < w'.heap.size ∧ Hid (w'.ownsRow (w2.heap.size + 1) 2 1 v j (intsV .i64 (shW zs j d))) ∧ Hid (Below w2.heap.size w2 w')) (fun i _ => n - (intOf i).toNat)
  case atStart =>
    refine ⟨0, .slice none 0 0, by omega, rfl, by go_simp, by go_simp, by simp, Lib.hid (World.ownsRow_nil _ _ _ _), Lib.hid (by (repeat' (first | (with_reducible exact Below.refl _ _) | (with_reducible assumption) | (with_reducible refine below_drewN ?_ _) | (with_reducible refine Below.drew ?_) | (with_reducible refine below_new ?_ (Nat.le_refl _) _) | (with_reducible refine Below.setCell ?_ ?_ _) | (with_reducible refine below_go ?_ (by assumption) (Nat.le_refl _)) | (simp; done) | (simp; omega) | omega)))⟩
  case round =>
    obtain ⟨j, v, hj, rfl, hcM, hfM, hzM, HOWN, HB⟩ := hrel
    have hbs := HB.out.size
    by_cases hjn : j < n
    · obtain ⟨z, hz⟩ : ∃ z, zs[j]?.getD 0 = z := ⟨_, rfl⟩
      have hcz : wr.cell? ⟨g, off + j, none⟩ = some (.int .i64 z) := by rw [(HH2.out.below HB.out).cs j hjn, hz]
      have hzb := (rightW_yes HR.out).2.2 j hjn
      rw [hz] at hzb
      have hsn := shW_snoc zs j d
      rw [hz] at hsn
      have HSN := Lib.hid hsn
      have hjI : (0 : Int) ≤ (j : Int) ∧ (j : Int) < (n : Int) := by omega
      have hvM : some w2.heap.size ≠ v.ownBlock := fun e => by have := (HOWN.out.lt _ e.symm).1; omega
      clear hz hsn
      go_wp2_with (at_builtin; refine wpList_append_lies _ rfl _ _ 69 rfl (w2.heap.size + 1) 2 i0 (.int .i64 0) 1 8 Try.underlying69 HI.out HZ0.out HZ1.out HZ2.out rfl (by decide) _ j _ rfl (HOWN.out.alloc _) ⟨wr.heap.size, 0, none⟩ 1 1 [.int .i64 (z + d)] rfl rfl (World.news_of_block (heap_alloc_new _ _)) (one_cell _ rfl) ?c1 ?c2 ?c3 ?c4 _ rfl ?_)
      case c1 => omega
      case c2 => unfold maxLen; omega
      case c3 => omega
      case c4 => simp; omega
      intro gm c w5 hown5 hgrow hat hlt
      have hcM5 : w5.cell? ⟨w2.heap.size, 0, none⟩ = some v := by
        rw [hgrow.cell_far ⟨w2.heap.size, 0, none⟩ (by simp; omega) hvM]
        go_simp
      have hfM5 : w5.frozen? ⟨w2.heap.size, 0, none⟩ = false := by
        rw [hgrow.frozen_far ⟨w2.heap.size, 0, none⟩ (by simp; omega) hvM]
        go_simp
      have hz5 : w2.heap.size < w5.heap.size := by have := hgrow.size; simp at this; omega
      rw [intsV_snoc, HSN.out] at hown5
      have hgm : (Value.slice (some ⟨gm, 0, none⟩) (j + 1) c).ownBlock ≠ some w2.heap.size := fun e => by have := (hown5.lt _ e).1; omega
      have HOWN5 := Lib.hid hown5
      have HB5 : Hid (Below w2.heap.size w2 w5) := Lib.hid (below_grown (v := v) (base := w2.heap.size + 1) (HB.out.alloc (by omega) _) hgrow (HOWN.out.alloc _) (by omega) (by simp; omega))
      clear hown5 hgrow hat
      go_wp2
      go_roundw
      case rel =>
        refine ⟨j + 1, _, by omega, by go_num, by go_simp, by go_simp, ?_, Lib.hid (ownsRow_setCell_other HOWN5.out hgm _), Lib.hid (HB5.out.setCell (by show w2.heap.size ≤ w2.heap.size; omega) _)⟩
        exact Nat.lt_of_lt_of_le hz5 ((Below.refl 0 w5).setCell (p := ⟨w2.heap.size, 0, none⟩) (Nat.zero_le _) _).size
      case measure => simp [intOf]; omega
    · obtain rfl : j = n := by omega
      obtain ⟨gm, c, rfl, hgb, hgl2⟩ := HOWN.out.form (by omega)
      have hOm : OnW wr (shW zs j d) j gm c := by
        rcases HOWN.out.2 with ⟨h0, _⟩ | ⟨g', cap', cur', hv, hb', hh, hn1, hn2, hn3, hn4⟩
        · cases h0
        · simp at hv
          obtain ⟨rfl, rfl⟩ := hv
          have : maxLen = 9223372036854775807 := rfl
          refine ⟨hn1, by omega, hgl2, fun i hi => ?_⟩
          exact owns_cell HOWN.out rfl (by rw [intsV_get _ _ _ (by rw [shW_len]; exact hi)])
      have HOm := Lib.hid hOm
      have c0' := (HB.out.cell (p := ⟨w.heap.size, 0, none⟩) (by show w.heap.size < w2.heap.size; omega)).trans c0
      have c1' := (HB.out.cell (p := ⟨w.heap.size + 1, 0, none⟩) (by show w.heap.size + 1 < w2.heap.size; omega)).trans c1
      have f1' := (HB.out.frozen (p := ⟨w.heap.size + 1, 0, none⟩) (by show w.heap.size + 1 < w2.heap.size; omega)).trans f1
      have c5' := (HB.out.cell (p := ⟨w1.heap.size, 0, none⟩) (by show w1.heap.size < w2.heap.size; omega)).trans c5
      have HOg : Hid (OnW wr zs j g1 k1) := Lib.hid (HO2.out.below HB.out)
      have HBr : Hid (Below w.heap.size w wr) := Lib.hid (hB2.trans (HB.out.mono (by omega)))
      have hwr : w1.heap.size < wr.heap.size := by omega
      clear hOm
      cases hq : rightW (shW zs j d) j
      · have HQ := Lib.hid hq
        clear hq
        go_wp2_with fail
        refine (sm_right_w (shW zs j d) gm j c false _ HOm.out HQ.out).mono ?_
        rintro e w6 ⟨rfl, hb6⟩
        have hr1 := (hb6.cell (p := ⟨w.heap.size + 1, 0, none⟩) (by show w.heap.size + 1 < wr.heap.size; omega)).trans c1'
        have hr2 := (hb6.frozen (p := ⟨w.heap.size + 1, 0, none⟩) (by show w.heap.size + 1 < wr.heap.size; omega)).trans f1'
        have hr5 := (hb6.cell (p := ⟨w1.heap.size, 0, none⟩) (by show w1.heap.size < wr.heap.size; omega)).trans c5'
        go_wp2
        refine bodyPost_ret (v := .agg #[.slice (some ⟨g1, 0, none⟩) j k1]) (by simp [results, Try.results51, go_sem, hr1]) rfl ⟨_, _, rfl, by omega, ?_, ?_⟩
        · exact (HBr.out.trans (hb6.mono HBr.out.size)).setCell (by show w.heap.size ≤ w.heap.size + 1; omega) _
        · exact Lib.hid (by rw [shR_no HQ.out]; exact (HOg.out.below hb6).store (by show g1 ≠ w.heap.size + 1; omega) _)
      · have HQ := Lib.hid hq
        clear hq
        go_wp2_with fail
        refine (sm_right_w (shW zs j d) gm j c true _ HOm.out HQ.out).mono ?_
        rintro e w6 ⟨rfl, hb6⟩
        have hr1 := (hb6.cell (p := ⟨w.heap.size + 1, 0, none⟩) (by show w.heap.size + 1 < wr.heap.size; omega)).trans c1'
        have hr2 := (hb6.frozen (p := ⟨w.heap.size + 1, 0, none⟩) (by show w.heap.size + 1 < wr.heap.size; omega)).trans f1'
        have hr5 := (hb6.cell (p := ⟨w2.heap.size, 0, none⟩) (by show w2.heap.size < wr.heap.size; omega)).trans hcM
        go_wp2
        refine bodyPost_ret (v := .agg #[.slice (some ⟨gm, 0, none⟩) j c]) (by simp [results, Try.results51, go_sem, hr1]) rfl ⟨_, _, rfl, by omega, ?_, ?_⟩
        · exact (HBr.out.trans (hb6.mono HBr.out.size)).setCell (by show w.heap.size ≤ w.heap.size + 1; omega) _
        · exact Lib.hid (by rw [shR_yes HQ.out]; exact (HOm.out.below hb6).store (by show gm ≠ w.heap.size + 1; omega) _)

end Go.Proofs.Ytddakmlnkffgiaa
