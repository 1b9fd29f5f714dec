/- Layer 10: where the walk of SmoothSteps stands. -/
import Derived.Test.YtddakmlnkffgiaaSmV
namespace Go.Proofs.Ytddakmlnkffgiaa
open Go.RowKit
set_option linter.unusedVariables false
set_option linter.unusedSimpArgs false

/-- the cells of the four variables, and the rows that they hold -/
structure StS (w w' : World) (M P S : Nat) (b off n cap : Nat) (zs ps ms : List Int) (gm km gp kp gs ks : Nat) : Prop where
  be : Below w.heap.size w w'
  l0 : w.heap.size < w'.heap.size
  lM : M < w'.heap.size
  lP : P < w'.heap.size
  lS : S < w'.heap.size
  c0 : w'.cell? ⟨w.heap.size, 0, none⟩ = some (.slice (some ⟨b, off, none⟩) n cap)
  cM : w'.cell? ⟨M, 0, none⟩ = some (.slice (some ⟨gm, 0, none⟩) n km)
  cP : w'.cell? ⟨P, 0, none⟩ = some (.slice (some ⟨gp, 0, none⟩) n kp)
  cS : w'.cell? ⟨S, 0, none⟩ = some (.slice (some ⟨gs, 0, none⟩) n ks)
  a0 : AtW w' zs n b off cap
  om : OwnW w' zs n gm km
  op : OwnW w' ps n gp kp
  os : OwnW w' ms n gs ks

/-- the written rows' blocks are no other's -/
structure FarS (w : World) (M P S b gm gp gs : Nat) : Prop where
  p0 : gp ≠ w.heap.size
  pM : gp ≠ M
  pP : gp ≠ P
  pS : gp ≠ S
  pb : gp ≠ b
  pm : gp ≠ gm
  ps : gp ≠ gs
  s0 : gs ≠ w.heap.size
  sM : gs ≠ M
  sP : gs ≠ P
  sS : gs ≠ S
  sb : gs ≠ b
  sm : gs ≠ gm
  wp : w.heap.size ≤ gp
  ws : w.heap.size ≤ gs

section
variable {w wr w' : World} {M P S b off n cap : Nat} {zs ps ms : List Int} {gm km gp kp gs ks : Nat}

theorem StS.below (s : StS w wr M P S b off n cap zs ps ms gm km gp kp gs ks) (h : Below wr.heap.size wr w') : StS w w' M P S b off n cap zs ps ms gm km gp kp gs ks :=
  ⟨s.be.trans (h.mono s.be.size), Nat.lt_of_lt_of_le s.l0 h.size, Nat.lt_of_lt_of_le s.lM h.size, Nat.lt_of_lt_of_le s.lP h.size, Nat.lt_of_lt_of_le s.lS h.size,
    (h.cell (p := ⟨w.heap.size, 0, none⟩) s.l0).trans s.c0, (h.cell (p := ⟨M, 0, none⟩) s.lM).trans s.cM, (h.cell (p := ⟨P, 0, none⟩) s.lP).trans s.cP, (h.cell (p := ⟨S, 0, none⟩) s.lS).trans s.cS,
    s.a0.below h, s.om.below h, s.op.below h, s.os.below h⟩

theorem cell_far {w : World} {a c : Addr} {u : Value} (h : a.block ≠ c.block) : (w.setCell c u).cell? a = w.cell? a := World.cell?_of_block (w := w) (Below.heap_setCell w c u a.block h)
theorem size_set (w : World) (a : Addr) (u : Value) : (w.setCell a u).heap.size = w.heap.size := by simp [World.setCell]

theorem StS.setP (s : StS w wr M P S b off n cap zs ps ms gm km gp kp gs ks) (f : FarS w M P S b gm gp gs) (i : Nat) (z : Int) (hi : i < n) (hl : n ≤ ps.length) : StS w (wr.setCell ⟨gp, i, none⟩ (.int .i64 z)) M P S b off n cap zs (ps.set i z) ms gm km gp kp gs ks :=
  ⟨s.be.setCell (by exact f.wp) _, by rw [size_set]; exact s.l0, by rw [size_set]; exact s.lM, by rw [size_set]; exact s.lP, by rw [size_set]; exact s.lS,
    (cell_far (fun e => f.p0 e.symm)).trans s.c0, (cell_far (fun e => f.pM e.symm)).trans s.cM, (cell_far (fun e => f.pP e.symm)).trans s.cP, (cell_far (fun e => f.pS e.symm)).trans s.cS,
    s.a0.store (fun e => f.pb e.symm) _, s.om.store (fun e => f.pm e.symm) _, s.op.set i z hi hl, s.os.store (fun e => f.ps e.symm) _⟩
theorem StS.setS (s : StS w wr M P S b off n cap zs ps ms gm km gp kp gs ks) (f : FarS w M P S b gm gp gs) (i : Nat) (z : Int) (hi : i < n) (hl : n ≤ ms.length) : StS w (wr.setCell ⟨gs, i, none⟩ (.int .i64 z)) M P S b off n cap zs ps (ms.set i z) gm km gp kp gs ks :=
  ⟨s.be.setCell (by exact f.ws) _, by rw [size_set]; exact s.l0, by rw [size_set]; exact s.lM, by rw [size_set]; exact s.lP, by rw [size_set]; exact s.lS,
    (cell_far (fun e => f.s0 e.symm)).trans s.c0, (cell_far (fun e => f.sM e.symm)).trans s.cM, (cell_far (fun e => f.sP e.symm)).trans s.cP, (cell_far (fun e => f.sS e.symm)).trans s.cS,
    s.a0.store (fun e => f.sb e.symm) _, s.om.store (fun e => f.sm e.symm) _, s.op.store (fun e => f.ps e) _, s.os.set i z hi hl⟩
end

/-- the pushed row, so far -/
def pushTo (zs ps : List Int) (n i : Nat) : Prop := ps.length = n ∧ ∀ j, j < n → ps[j]?.getD 0 = if 0 < j ∧ j < i then zs[j - 1]?.getD 0 else zs[j]?.getD 0
theorem pushTo_start (zs : List Int) (n : Nat) (h : zs.length = n) : pushTo zs zs n 0 := ⟨h, fun j hj => by rw [if_neg (by omega)]⟩
theorem pushTo_skip {zs ps : List Int} {n : Nat} (h : pushTo zs ps n 0) : pushTo zs ps n 1 := ⟨h.1, fun j hj => by rw [h.2 j hj, if_neg (by omega), if_neg (by omega)]⟩
theorem pushTo_next {zs ps : List Int} {n i : Nat} (h : pushTo zs ps n i) (hi : i < n) (h0 : 0 < i) : pushTo zs (ps.set i (zs[i - 1]?.getD 0)) n (i + 1) := by
  refine ⟨by rw [List.length_set, h.1], fun j hj => ?_⟩
  rw [List.getElem?_set]
  by_cases c : i = j
  · subst c
    rw [if_pos rfl, if_pos (by rw [h.1]; exact hi), if_pos ⟨h0, by omega⟩]
    rfl
  · rw [if_neg c, h.2 j hj]
    by_cases c2 : 0 < j ∧ j < i
    · rw [if_pos c2, if_pos ⟨c2.1, by omega⟩]
    · rw [if_neg c2, if_neg (by omega)]
theorem pushTo_end {zs ps : List Int} {n : Nat} (h : pushTo zs ps n n) (pos : Int) (hn : 0 < n) : ∀ j, j < n → (pos :: zs)[j]?.getD 0 = (ps.set 0 pos)[j]?.getD 0 := by
  intro j hj
  rw [List.getElem?_set]
  by_cases c : 0 = j
  · subst c
    rw [if_pos rfl, if_pos (by rw [h.1]; exact hn)]
    rfl
  · rw [if_neg c, h.2 j hj, if_pos (by omega)]
    obtain ⟨k, rfl⟩ : ∃ k, j = k + 1 := ⟨j - 1, by omega⟩
    simp
def shiftTo (zs ms : List Int) (n i : Nat) (d : Int) : Prop := ms.length = n ∧ ∀ j, j < n → ms[j]?.getD 0 = if j < i then zs[j]?.getD 0 + d else zs[j]?.getD 0
theorem shiftTo_start (zs : List Int) (n : Nat) (d : Int) (h : zs.length = n) : shiftTo zs zs n 0 d := ⟨h, fun j hj => by rw [if_neg (by omega)]⟩
theorem shiftTo_next {zs ms : List Int} {n i : Nat} {d : Int} (h : shiftTo zs ms n i d) (hi : i < n) : shiftTo zs (ms.set i (zs[i]?.getD 0 + d)) n (i + 1) d := by
  refine ⟨by rw [List.length_set, h.1], fun j hj => ?_⟩
  rw [List.getElem?_set]
  by_cases c : i = j
  · subst c
    rw [if_pos rfl, if_pos (by rw [h.1]; exact hi), if_pos (by omega)]
    rfl
  · rw [if_neg c, h.2 j hj]
    by_cases c2 : j < i
    · rw [if_pos c2, if_pos (by omega)]
    · rw [if_neg c2, if_neg (by omega)]
theorem shiftTo_end {zs ms : List Int} {n : Nat} {d : Int} (h : shiftTo zs ms n n d) : ∀ j, j < n → (shW zs n d)[j]?.getD 0 = ms[j]?.getD 0 := by
  intro j hj
  rw [h.2 j hj, if_pos hj, shW_get _ _ _ _ hj]
def pushSt (pB : Bool) (zs ps : List Int) (n i : Nat) : Prop := ps.length = n ∧ (pB = true → pushTo zs ps n i) ∧ (pB = false → ps = zs)
def shiftSt (ff : Bool) (zs ms : List Int) (n i : Nat) (d : Int) : Prop := ms.length = n ∧ (ff = true → shiftTo zs ms n i d) ∧ (ff = false → ms = zs)
theorem pushL_end {zs ps : List Int} {n : Nat} {pos : Int} (hr : rightW zs n = true) (h : plB pos = true) (hp : pushTo zs ps n n) (hn : 0 < n) : ∀ j, j < n → (pushL zs n pos)[j]?.getD 0 = (ps.set 0 pos)[j]?.getD 0 := by
  unfold pushL
  rw [hr, h]
  exact pushTo_end hp pos hn
theorem pushL_no {zs : List Int} {n : Nat} {pos : Int} (h : plB pos = false) : pushL zs n pos = zs := by
  unfold pushL
  rw [h, Bool.and_false]
  rfl
theorem shiftL_end {zs ms : List Int} {n : Nat} {d : Int} {ff : Bool} (hr : rightW zs n = true) (hf : ff = (farB d && rightW (shW zs n d) n)) (h : shiftSt ff zs ms n n d) : ∀ j, j < n → (shiftL zs n d)[j]?.getD 0 = ms[j]?.getD 0 := by
  intro j hj
  unfold shiftL
  rw [hr, Bool.true_and]
  cases hfd : farB d
  · rw [hfd, Bool.false_and] at hf
    rw [h.2.2 hf]
    rfl
  · rw [hfd, Bool.true_and] at hf
    cases hq : rightW (shW zs n d) n
    · rw [hq] at hf
      rw [h.2.2 hf, shR_no hq]
      rfl
    · rw [hq] at hf
      rw [shR_yes hq]
      exact shiftTo_end (h.2.1 hf) j hj
theorem OwnW.congr {w : World} {zs ys : List Int} {n g k : Nat} (h : OwnW w zs n g k) (he : ∀ i, i < n → ys[i]?.getD 0 = zs[i]?.getD 0) : OwnW w ys n g k := by
  obtain ⟨cur, h1, h2, h3, h4, h5⟩ := h
  refine ⟨cur, h1, h2, h3, h4, ?_⟩
  rw [h5]
  refine List.ext_getElem? fun j => ?_
  by_cases hj : j < n
  · rw [rowsL_get _ _ _ hj, rowsL_get _ _ _ hj, he j hj]
  · rw [List.getElem?_eq_none (by rw [rowsL_len]; omega), List.getElem?_eq_none (by rw [rowsL_len]; omega)]

theorem sm_push_any (zs : List Int) (g n k : Nat) (pos : Int) (w : World) (h : OnW w zs n g k) (hn : n ≤ 1000) :
    Calls Try.prog 45 #[.agg #[.slice (some ⟨g, 0, none⟩) n k], .int .i64 pos] w fun e w' => ∃ g' k', e = .returned (.agg #[.slice (some ⟨g', 0, none⟩) n k']) ∧ Below w.heap.size w w' ∧ Hid (OnW w' (pushL zs n pos) n g' k') := by
  cases hq : (rightW zs n && plB pos)
  · refine (sm_push_w_no zs g n k pos w h hn hq).mono ?_
    rintro e w' ⟨g', k', rfl, _, hb, o⟩
    exact ⟨g', k', rfl, hb, Lib.hid (by unfold pushL; rw [hq]; exact o)⟩
  · have hq' := hq
    simp only [Bool.and_eq_true] at hq'
    refine (sm_push_w zs g n k pos w h hq'.1 hq'.2).mono ?_
    rintro e w' ⟨g', k', rfl, _, hb, o⟩
    exact ⟨g', k', rfl, hb, Lib.hid (by unfold pushL; rw [hq]; exact o)⟩
theorem sm_shift_any (zs : List Int) (g n k : Nat) (d : Int) (w : World) (h : OnW w zs n g k) (hn : n ≤ 1000) :
    Calls Try.prog 51 #[.agg #[.slice (some ⟨g, 0, none⟩) n k], .int .i64 d] w fun e w' => ∃ g' k', e = .returned (.agg #[.slice (some ⟨g', 0, none⟩) n k']) ∧ Below w.heap.size w w' ∧ Hid (OnW w' (shiftL zs n d) n g' k') := by
  cases hq : (rightW zs n && farB d)
  · refine (sm_shift_far zs g 0 n k d w h.toAt hn hq).mono ?_
    rintro e w' ⟨g', k', rfl, _, hb, o⟩
    exact ⟨g', k', rfl, hb, Lib.hid (by unfold shiftL; rw [hq]; exact o)⟩
  · have hq' := hq
    simp only [Bool.and_eq_true] at hq'
    refine (sm_shift_in zs g 0 n k d w h.toAt hq'.1 hq'.2).mono ?_
    rintro e w' ⟨g', k', rfl, _, hb, o⟩
    exact ⟨g', k', rfl, hb, Lib.hid (by unfold shiftL; rw [hq]; exact o.out)⟩

set_option maxHeartbeats 1000000 in
theorem sm_out_no (zs : List Int) (g n k : Nat) (w : World) (h : OnW w zs n g k) (hr : rightW zs n = false) :
    Calls Try.prog 44 #[.agg #[.slice (some ⟨g, 0, none⟩) n k]] w fun e w' => e = .returned (.int .i64 0) ∧ Below w.heap.size w w' := by
  have H := Lib.hid h
  have HR := Lib.hid hr
  have hgl := h.gl
  clear h hr
  go_enter Try.func44, Try.ntmps44
  go_wp2_with fail
  refine (sm_right_w zs g n k false _ (H.out.below ?bb) HR.out).mono ?_
  case bb => (repeat' (first | (with_reducible exact Below.refl _ _) | (with_reducible assumption) | (with_reducible refine below_drewN ?_ _) | (with_reducible refine Below.drew ?_) | (with_reducible refine below_new ?_ (Nat.le_refl _) _) | (with_reducible refine Below.setCell ?_ ?_ _) | (with_reducible refine below_go ?_ (by assumption) (Nat.le_refl _)) | (simp; done) | (simp; omega) | omega))
  rintro e w1 ⟨rfl, hb1⟩
  go_wp2
  go_ret
  exact ⟨rfl, by (repeat' (first | (with_reducible exact Below.refl _ _) | (with_reducible assumption) | (with_reducible refine below_drewN ?_ _) | (with_reducible refine Below.drew ?_) | (with_reducible refine below_new ?_ (Nat.le_refl _) _) | (with_reducible refine Below.setCell ?_ ?_ _) | (with_reducible refine below_go ?_ (by assumption) (Nat.le_refl _)) | (simp; done) | (simp; omega) | omega))⟩
theorem sm_out_any (zs : List Int) (g n k : Nat) (x : Int) (w : World) (h : OnW w zs n g k) (hx : sumL zs n = x) :
    Calls Try.prog 44 #[.agg #[.slice (some ⟨g, 0, none⟩) n k]] w fun e w' => e = .returned (.int .i64 x) ∧ Below w.heap.size w w' := by
  cases hr : rightW zs n
  · have : x = 0 := by
      rw [← hx]
      unfold sumL
      rw [hr]
      rfl
    subst this
    exact sm_out_no zs g n k w h hr
  · refine sm_out_w zs g n k x w h hr ?_
    rw [← hx]
    unfold sumL
    rw [hr]
    rfl
theorem sm_rest_any (zs : List Int) (g n k : Nat) (r : Bool) (w : World) (h : OnW w zs n g k) (hr : restW zs n = r) :
    Calls Try.prog 47 #[.agg #[.slice (some ⟨g, 0, none⟩) n k]] w fun e w' => e = .returned (.bool r) ∧ Below w.heap.size w w' := sm_rest_w zs g n k r w h hr

end Go.Proofs.Ytddakmlnkffgiaa
