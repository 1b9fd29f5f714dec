/- Layer 16: a call of a block. PRINTED by wip/tool/mkstep.py -/
import Derived.Test.YtedmhafpaielmaaDoorStdF
namespace Go.Proofs.YtedmhafpaielmaaDoor
open Go.RowKit
set_option linter.unusedVariables false
set_option linter.unusedSimpArgs false
attribute [local go_sem] ite_max ite_min vite_max vite_min ext_cell ext_frozen extS_cell extS_frozen

/-- what a call of a block of a kind lays, behind these cells -/
def StepC (kind : Int) (n : Nat) (zs zs' : List Int) : Prop := ∀ (b k : Nat) (w : World), Row w b zs → Blanks w → Calls Tryd.prog 8 #[.int .i64 kind, .slice (some ⟨b, 0, none⟩) n k] w fun e w' => ∃ g c, e = .returned (.slice (some ⟨g, 0, none⟩) n c) ∧ w.heap.size ≤ g ∧ Row w' g zs' ∧ Below w.heap.size w w'

theorem i64_info : (Tryd.prog.info? 2).map (fun i => (i.zero, i.size, i.bytes)) = some (some (.int .i64 0), 1, 8) := by kernel_rfl
theorem clone_row (b n k : Nat) (zs : List Int) (w : World) (hn : zs.length = n) (h0 : 0 < n ∧ n ≤ 100) (h : Row w b zs) : Calls Tryd.prog 15 #[.slice (some ⟨b, 0, none⟩) n k] w fun e w' => ∃ g c, e = .returned (.slice (some ⟨g, 0, none⟩) n c) ∧ w.heap.size ≤ g ∧ Row w' g zs ∧ Below w.heap.size w w' := by
  obtain ⟨i0, hi0, hz0, hz1, hz2⟩ := info_parts i64_info
  refine (Tryd.slices_Clone i0 (.int .i64 0) 1 8 hi0 hz0 hz1 hz2 rfl (by decide) (fun w => by kernel_rfl) b 0 n k (intsV .i64 zs) w (by rw [intsV_len, hn, Nat.mul_one]) (by unfold maxLen; omega) (by omega) (fun j u hu => ?_) (fun u hu => ?_)).mono ?_
  · have hj := (List.getElem?_eq_some_iff.1 hu).1
    rw [intsV_len] at hj
    rw [intsV_get .i64 zs j hj] at hu
    cases hu
    rw [Nat.zero_add]
    exact h.cell j _ (by rw [List.getElem?_eq_getElem hj]; rfl)
  · obtain ⟨z, _, rfl⟩ := List.mem_map.1 hu
    rfl
  · rintro e w' ⟨v, rfl, o, _, hb⟩
    obtain ⟨g, c, he, hg⟩ := World.ownsRow.form o (by omega)
    subst he
    refine ⟨g, c, rfl, (o.lt g rfl).1, ⟨(o.lt g rfl).2, fun j z hz => ?_, fun j => o.frozenAt j⟩, hb⟩
    have hj := (List.getElem?_eq_some_iff.1 hz).1
    refine owns_cell o rfl ?_
    rw [intsV_get .i64 zs j hj, hz]
    rfl

set_option maxRecDepth 100000 in
set_option maxHeartbeats 2000000 in
theorem step_ton (z0 z1 z2 z3 : Int) (zs' : List Int) (hT : ∀ g k w, Row w g [z0, z1, z2, z3] → Calls Tryd.prog 16 #[.int .i64 10, .slice (some ⟨g, 0, none⟩) 4 k] w fun x w' => (∃ v, x = .returned v) ∧ But g w w' ∧ Row w' g zs') : StepC 10 4 [z0, z1, z2, z3] zs' := by
  intro b k w hrow htab
  have HR := Lib.hid hrow
  have HT := Lib.hid htab
  have hcnt : countOf 10 = 4 := by kernel_rfl
  have HCL := clone_row b 4 k [z0, z1, z2, z3] w rfl (by omega) hrow
  have hP := fun w' h => pins_any 10 w' h
  rw [hcnt] at hP
  have HP := Lib.hid hP
  have HCL' := Lib.hid HCL
  have HTI := Lib.hid hT
  clear hT
  clear hrow htab HCL hP hcnt
  go_enter Tryd.func8, Tryd.ntmps8
  go_wp2_with fail
  refine HCL'.out.mono ?_
  rintro e w1 ⟨g, c, rfl, hg, hr1, hb1⟩
  have HR1 := Lib.hid hr1
  have HT1 := Lib.hid (HT.out.on hb1)
  clear hr1
  go_wp2_with fail
  refine (HP.out _ HT1.out).mono ?_
  rintro e w2 ⟨v, rfl, o, hb2⟩
  obtain ⟨A, c2, rfl, h1, h2, h3⟩ := own_form o
  have hHR2 := Lib.hid (HR1.out.below hb2)
  have hB2 : Below w.heap.size w w2 := hb1.trans (hb2.mono hb1.size)
  have hg2 := hHR2.out.lt
  clear o h1 h2 h3 HR1 HT1 HP HCL' hb1 hb2
  go_wp2_with fail
  refine (HTI.out g c w2 hHR2.out).mono ?_
  rintro e w3 ⟨⟨v, rfl⟩, hbut, hr3⟩
  go_wp2
  go_ret
  exact ⟨g, c, rfl, hg, hr3, hB2.trans (hbut.below _ hg hB2.size)⟩

set_option maxRecDepth 100000 in
set_option maxHeartbeats 2000000 in
theorem step_tp (z0 z1 z2 z3 z4 z5 : Int) (zs' : List Int) (hT : ∀ g k w, Row w g [z0, z1, z2, z3, z4, z5] → Calls Tryd.prog 16 #[.int .i64 12, .slice (some ⟨g, 0, none⟩) 6 k] w fun x w' => (∃ v, x = .returned v) ∧ But g w w' ∧ Row w' g zs') : StepC 12 6 [z0, z1, z2, z3, z4, z5] zs' := by
  intro b k w hrow htab
  have HR := Lib.hid hrow
  have HT := Lib.hid htab
  have hcnt : countOf 12 = 6 := by kernel_rfl
  have HCL := clone_row b 6 k [z0, z1, z2, z3, z4, z5] w rfl (by omega) hrow
  have hP := fun w' h => pins_any 12 w' h
  rw [hcnt] at hP
  have HP := Lib.hid hP
  have HCL' := Lib.hid HCL
  have HTI := Lib.hid hT
  clear hT
  clear hrow htab HCL hP hcnt
  go_enter Tryd.func8, Tryd.ntmps8
  go_wp2_with fail
  refine HCL'.out.mono ?_
  rintro e w1 ⟨g, c, rfl, hg, hr1, hb1⟩
  have HR1 := Lib.hid hr1
  have HT1 := Lib.hid (HT.out.on hb1)
  clear hr1
  go_wp2_with fail
  refine (HP.out _ HT1.out).mono ?_
  rintro e w2 ⟨v, rfl, o, hb2⟩
  obtain ⟨A, c2, rfl, h1, h2, h3⟩ := own_form o
  have hHR2 := Lib.hid (HR1.out.below hb2)
  have hB2 : Below w.heap.size w w2 := hb1.trans (hb2.mono hb1.size)
  have hg2 := hHR2.out.lt
  clear o h1 h2 h3 HR1 HT1 HP HCL' hb1 hb2
  go_wp2_with fail
  refine (HTI.out g c w2 hHR2.out).mono ?_
  rintro e w3 ⟨⟨v, rfl⟩, hbut, hr3⟩
  go_wp2
  go_ret
  exact ⟨g, c, rfl, hg, hr3, hB2.trans (hbut.below _ hg hB2.size)⟩

set_option maxRecDepth 100000 in
set_option maxHeartbeats 2000000 in
theorem step_ctu (z0 z1 z2 z3 z4 z5 : Int) (zs' : List Int) (hT : ∀ g k w, Row w g [z0, z1, z2, z3, z4, z5] → Calls Tryd.prog 17 #[.int .i64 13, .slice (some ⟨g, 0, none⟩) 6 k] w fun x w' => (∃ v, x = .returned v) ∧ But g w w' ∧ Row w' g zs') : StepC 13 6 [z0, z1, z2, z3, z4, z5] zs' := by
  intro b k w hrow htab
  have HR := Lib.hid hrow
  have HT := Lib.hid htab
  have hcnt : countOf 13 = 6 := by kernel_rfl
  have HCL := clone_row b 6 k [z0, z1, z2, z3, z4, z5] w rfl (by omega) hrow
  have hP := fun w' h => pins_any 13 w' h
  rw [hcnt] at hP
  have HP := Lib.hid hP
  have HCL' := Lib.hid HCL
  have HTI := Lib.hid hT
  clear hT
  clear hrow htab HCL hP hcnt
  go_enter Tryd.func8, Tryd.ntmps8
  go_wp2_with fail
  refine HCL'.out.mono ?_
  rintro e w1 ⟨g, c, rfl, hg, hr1, hb1⟩
  have HR1 := Lib.hid hr1
  have HT1 := Lib.hid (HT.out.on hb1)
  clear hr1
  go_wp2_with fail
  refine (HP.out _ HT1.out).mono ?_
  rintro e w2 ⟨v, rfl, o, hb2⟩
  obtain ⟨A, c2, rfl, h1, h2, h3⟩ := own_form o
  have hHR2 := Lib.hid (HR1.out.below hb2)
  have hB2 : Below w.heap.size w w2 := hb1.trans (hb2.mono hb1.size)
  have hg2 := hHR2.out.lt
  clear o h1 h2 h3 HR1 HT1 HP HCL' hb1 hb2
  go_wp2_with fail
  refine (HTI.out g c w2 hHR2.out).mono ?_
  rintro e w3 ⟨⟨v, rfl⟩, hbut, hr3⟩
  go_wp2
  go_ret
  exact ⟨g, c, rfl, hg, hr3, hB2.trans (hbut.below _ hg hB2.size)⟩

theorem row3 {w : World} {g : Nat} {a b c : Int} (hl : g < w.heap.size) (hf : ∀ o, w.frozen? ⟨g, o, none⟩ = false) (h0 : w.cell? ⟨g, 0, none⟩ = some (.int .i64 a)) (h1 : w.cell? ⟨g, 1, none⟩ = some (.int .i64 b)) (h2 : w.cell? ⟨g, 2, none⟩ = some (.int .i64 c)) : Row w g [a, b, c] :=
  Row.mk0 hl hf (row_cons h0 (row_cons h1 (row_cons h2 (row_nil w g 3))))

set_option maxRecDepth 100000 in
set_option maxHeartbeats 2000000 in
theorem step_up00 (q : Int) : StepC 15 3 [0, q, 0] [0, 0, 0] := by
  intro b k w hrow htab
  have HR := Lib.hid hrow
  have HT := Lib.hid htab
  have hcnt : countOf 15 = 3 := by kernel_rfl
  have HCL := clone_row b 3 k [0, q, 0] w rfl (by omega) hrow
  have hP := fun w' h => pins_any 15 w' h
  rw [hcnt] at hP
  have HP := Lib.hid hP
  have HCL' := Lib.hid HCL
  skip
  clear hrow htab HCL hP hcnt
  go_enter Tryd.func8, Tryd.ntmps8
  go_wp2_with fail
  refine HCL'.out.mono ?_
  rintro e w1 ⟨g, c, rfl, hg, hr1, hb1⟩
  have HR1 := Lib.hid hr1
  have HT1 := Lib.hid (HT.out.on hb1)
  clear hr1
  go_wp2_with fail
  refine (HP.out _ HT1.out).mono ?_
  rintro e w2 ⟨v, rfl, o, hb2⟩
  obtain ⟨A, c2, rfl, h1, h2, h3⟩ := own_form o
  have hHR2 := Lib.hid (HR1.out.below hb2)
  have hB2 : Below w.heap.size w w2 := hb1.trans (hb2.mono hb1.size)
  have hg2 := hHR2.out.lt
  clear o h1 h2 h3 HR1 HT1 HP HCL' hb1 hb2
  have c0 := hHR2.out.cell 0 _ rfl
  have c1 := hHR2.out.cell 1 _ rfl
  have c2 := hHR2.out.cell 2 _ rfl
  have cf := hHR2.out.free
  go_wp2_with (first | (go_at_call 18; refine (truth_any _ _).mono ?_; rintro e w' ⟨rfl, rfl⟩))
  go_ret
  refine ⟨g, c, rfl, hg, ?_, ?_⟩
  · exact (row3 (by simpa [World.setCell] using hg2) (fun o => by go_simp) (by go_simp) (by go_simp) (by go_simp))
  · have hgB : w.heap.size ≤ g := hg
    (repeat' (first | (with_reducible exact Below.refl _ _) | (with_reducible assumption) | (with_reducible refine below_drewN ?_ _) | (with_reducible refine Below.drew ?_) | (with_reducible refine below_new ?_ (Nat.le_refl _) _) | (with_reducible refine Below.setCell ?_ ?_ _) | (with_reducible refine below_go ?_ (by assumption) (Nat.le_refl _)) | (simp; done) | (simp; omega) | omega))

set_option maxRecDepth 100000 in
set_option maxHeartbeats 2000000 in
theorem step_down00 (q : Int) : StepC 16 3 [0, q, 0] [0, 0, 0] := by
  intro b k w hrow htab
  have HR := Lib.hid hrow
  have HT := Lib.hid htab
  have hcnt : countOf 16 = 3 := by kernel_rfl
  have HCL := clone_row b 3 k [0, q, 0] w rfl (by omega) hrow
  have hP := fun w' h => pins_any 16 w' h
  rw [hcnt] at hP
  have HP := Lib.hid hP
  have HCL' := Lib.hid HCL
  skip
  clear hrow htab HCL hP hcnt
  go_enter Tryd.func8, Tryd.ntmps8
  go_wp2_with fail
  refine HCL'.out.mono ?_
  rintro e w1 ⟨g, c, rfl, hg, hr1, hb1⟩
  have HR1 := Lib.hid hr1
  have HT1 := Lib.hid (HT.out.on hb1)
  clear hr1
  go_wp2_with fail
  refine (HP.out _ HT1.out).mono ?_
  rintro e w2 ⟨v, rfl, o, hb2⟩
  obtain ⟨A, c2, rfl, h1, h2, h3⟩ := own_form o
  have hHR2 := Lib.hid (HR1.out.below hb2)
  have hB2 : Below w.heap.size w w2 := hb1.trans (hb2.mono hb1.size)
  have hg2 := hHR2.out.lt
  clear o h1 h2 h3 HR1 HT1 HP HCL' hb1 hb2
  have c0 := hHR2.out.cell 0 _ rfl
  have c1 := hHR2.out.cell 1 _ rfl
  have c2 := hHR2.out.cell 2 _ rfl
  have cf := hHR2.out.free
  go_wp2_with (first | (go_at_call 18; refine (truth_any _ _).mono ?_; rintro e w' ⟨rfl, rfl⟩))
  go_ret
  refine ⟨g, c, rfl, hg, ?_, ?_⟩
  · exact (row3 (by simpa [World.setCell] using hg2) (fun o => by go_simp) (by go_simp) (by go_simp) (by go_simp))
  · have hgB : w.heap.size ≤ g := hg
    (repeat' (first | (with_reducible exact Below.refl _ _) | (with_reducible assumption) | (with_reducible refine below_drewN ?_ _) | (with_reducible refine Below.drew ?_) | (with_reducible refine below_new ?_ (Nat.le_refl _) _) | (with_reducible refine Below.setCell ?_ ?_ _) | (with_reducible refine below_go ?_ (by assumption) (Nat.le_refl _)) | (simp; done) | (simp; omega) | omega))

set_option maxRecDepth 100000 in
set_option maxHeartbeats 2000000 in
theorem step_up01 (q : Int) : StepC 15 3 [0, q, 1] [0, 0, 0] := by
  intro b k w hrow htab
  have HR := Lib.hid hrow
  have HT := Lib.hid htab
  have hcnt : countOf 15 = 3 := by kernel_rfl
  have HCL := clone_row b 3 k [0, q, 1] w rfl (by omega) hrow
  have hP := fun w' h => pins_any 15 w' h
  rw [hcnt] at hP
  have HP := Lib.hid hP
  have HCL' := Lib.hid HCL
  skip
  clear hrow htab HCL hP hcnt
  go_enter Tryd.func8, Tryd.ntmps8
  go_wp2_with fail
  refine HCL'.out.mono ?_
  rintro e w1 ⟨g, c, rfl, hg, hr1, hb1⟩
  have HR1 := Lib.hid hr1
  have HT1 := Lib.hid (HT.out.on hb1)
  clear hr1
  go_wp2_with fail
  refine (HP.out _ HT1.out).mono ?_
  rintro e w2 ⟨v, rfl, o, hb2⟩
  obtain ⟨A, c2, rfl, h1, h2, h3⟩ := own_form o
  have hHR2 := Lib.hid (HR1.out.below hb2)
  have hB2 : Below w.heap.size w w2 := hb1.trans (hb2.mono hb1.size)
  have hg2 := hHR2.out.lt
  clear o h1 h2 h3 HR1 HT1 HP HCL' hb1 hb2
  have c0 := hHR2.out.cell 0 _ rfl
  have c1 := hHR2.out.cell 1 _ rfl
  have c2 := hHR2.out.cell 2 _ rfl
  have cf := hHR2.out.free
  go_wp2_with (first | (go_at_call 18; refine (truth_any _ _).mono ?_; rintro e w' ⟨rfl, rfl⟩))
  go_ret
  refine ⟨g, c, rfl, hg, ?_, ?_⟩
  · exact (row3 (by simpa [World.setCell] using hg2) (fun o => by go_simp) (by go_simp) (by go_simp) (by go_simp))
  · have hgB : w.heap.size ≤ g := hg
    (repeat' (first | (with_reducible exact Below.refl _ _) | (with_reducible assumption) | (with_reducible refine below_drewN ?_ _) | (with_reducible refine Below.drew ?_) | (with_reducible refine below_new ?_ (Nat.le_refl _) _) | (with_reducible refine Below.setCell ?_ ?_ _) | (with_reducible refine below_go ?_ (by assumption) (Nat.le_refl _)) | (simp; done) | (simp; omega) | omega))

set_option maxRecDepth 100000 in
set_option maxHeartbeats 2000000 in
theorem step_down01 (q : Int) : StepC 16 3 [0, q, 1] [0, 1, 0] := by
  intro b k w hrow htab
  have HR := Lib.hid hrow
  have HT := Lib.hid htab
  have hcnt : countOf 16 = 3 := by kernel_rfl
  have HCL := clone_row b 3 k [0, q, 1] w rfl (by omega) hrow
  have hP := fun w' h => pins_any 16 w' h
  rw [hcnt] at hP
  have HP := Lib.hid hP
  have HCL' := Lib.hid HCL
  skip
  clear hrow htab HCL hP hcnt
  go_enter Tryd.func8, Tryd.ntmps8
  go_wp2_with fail
  refine HCL'.out.mono ?_
  rintro e w1 ⟨g, c, rfl, hg, hr1, hb1⟩
  have HR1 := Lib.hid hr1
  have HT1 := Lib.hid (HT.out.on hb1)
  clear hr1
  go_wp2_with fail
  refine (HP.out _ HT1.out).mono ?_
  rintro e w2 ⟨v, rfl, o, hb2⟩
  obtain ⟨A, c2, rfl, h1, h2, h3⟩ := own_form o
  have hHR2 := Lib.hid (HR1.out.below hb2)
  have hB2 : Below w.heap.size w w2 := hb1.trans (hb2.mono hb1.size)
  have hg2 := hHR2.out.lt
  clear o h1 h2 h3 HR1 HT1 HP HCL' hb1 hb2
  have c0 := hHR2.out.cell 0 _ rfl
  have c1 := hHR2.out.cell 1 _ rfl
  have c2 := hHR2.out.cell 2 _ rfl
  have cf := hHR2.out.free
  go_wp2_with (first | (go_at_call 18; refine (truth_any _ _).mono ?_; rintro e w' ⟨rfl, rfl⟩))
  go_ret
  refine ⟨g, c, rfl, hg, ?_, ?_⟩
  · exact (row3 (by simpa [World.setCell] using hg2) (fun o => by go_simp) (by go_simp) (by go_simp) (by go_simp))
  · have hgB : w.heap.size ≤ g := hg
    (repeat' (first | (with_reducible exact Below.refl _ _) | (with_reducible assumption) | (with_reducible refine below_drewN ?_ _) | (with_reducible refine Below.drew ?_) | (with_reducible refine below_new ?_ (Nat.le_refl _) _) | (with_reducible refine Below.setCell ?_ ?_ _) | (with_reducible refine below_go ?_ (by assumption) (Nat.le_refl _)) | (simp; done) | (simp; omega) | omega))

set_option maxRecDepth 100000 in
set_option maxHeartbeats 2000000 in
theorem step_up10 (q : Int) : StepC 15 3 [1, q, 0] [1, 1, 1] := by
  intro b k w hrow htab
  have HR := Lib.hid hrow
  have HT := Lib.hid htab
  have hcnt : countOf 15 = 3 := by kernel_rfl
  have HCL := clone_row b 3 k [1, q, 0] w rfl (by omega) hrow
  have hP := fun w' h => pins_any 15 w' h
  rw [hcnt] at hP
  have HP := Lib.hid hP
  have HCL' := Lib.hid HCL
  skip
  clear hrow htab HCL hP hcnt
  go_enter Tryd.func8, Tryd.ntmps8
  go_wp2_with fail
  refine HCL'.out.mono ?_
  rintro e w1 ⟨g, c, rfl, hg, hr1, hb1⟩
  have HR1 := Lib.hid hr1
  have HT1 := Lib.hid (HT.out.on hb1)
  clear hr1
  go_wp2_with fail
  refine (HP.out _ HT1.out).mono ?_
  rintro e w2 ⟨v, rfl, o, hb2⟩
  obtain ⟨A, c2, rfl, h1, h2, h3⟩ := own_form o
  have hHR2 := Lib.hid (HR1.out.below hb2)
  have hB2 : Below w.heap.size w w2 := hb1.trans (hb2.mono hb1.size)
  have hg2 := hHR2.out.lt
  clear o h1 h2 h3 HR1 HT1 HP HCL' hb1 hb2
  have c0 := hHR2.out.cell 0 _ rfl
  have c1 := hHR2.out.cell 1 _ rfl
  have c2 := hHR2.out.cell 2 _ rfl
  have cf := hHR2.out.free
  go_wp2_with (first | (go_at_call 18; refine (truth_any _ _).mono ?_; rintro e w' ⟨rfl, rfl⟩))
  go_ret
  refine ⟨g, c, rfl, hg, ?_, ?_⟩
  · exact (row3 (by simpa [World.setCell] using hg2) (fun o => by go_simp) (by go_simp) (by go_simp) (by go_simp))
  · have hgB : w.heap.size ≤ g := hg
    (repeat' (first | (with_reducible exact Below.refl _ _) | (with_reducible assumption) | (with_reducible refine below_drewN ?_ _) | (with_reducible refine Below.drew ?_) | (with_reducible refine below_new ?_ (Nat.le_refl _) _) | (with_reducible refine Below.setCell ?_ ?_ _) | (with_reducible refine below_go ?_ (by assumption) (Nat.le_refl _)) | (simp; done) | (simp; omega) | omega))

set_option maxRecDepth 100000 in
set_option maxHeartbeats 2000000 in
theorem step_down10 (q : Int) : StepC 16 3 [1, q, 0] [1, 0, 1] := by
  intro b k w hrow htab
  have HR := Lib.hid hrow
  have HT := Lib.hid htab
  have hcnt : countOf 16 = 3 := by kernel_rfl
  have HCL := clone_row b 3 k [1, q, 0] w rfl (by omega) hrow
  have hP := fun w' h => pins_any 16 w' h
  rw [hcnt] at hP
  have HP := Lib.hid hP
  have HCL' := Lib.hid HCL
  skip
  clear hrow htab HCL hP hcnt
  go_enter Tryd.func8, Tryd.ntmps8
  go_wp2_with fail
  refine HCL'.out.mono ?_
  rintro e w1 ⟨g, c, rfl, hg, hr1, hb1⟩
  have HR1 := Lib.hid hr1
  have HT1 := Lib.hid (HT.out.on hb1)
  clear hr1
  go_wp2_with fail
  refine (HP.out _ HT1.out).mono ?_
  rintro e w2 ⟨v, rfl, o, hb2⟩
  obtain ⟨A, c2, rfl, h1, h2, h3⟩ := own_form o
  have hHR2 := Lib.hid (HR1.out.below hb2)
  have hB2 : Below w.heap.size w w2 := hb1.trans (hb2.mono hb1.size)
  have hg2 := hHR2.out.lt
  clear o h1 h2 h3 HR1 HT1 HP HCL' hb1 hb2
  have c0 := hHR2.out.cell 0 _ rfl
  have c1 := hHR2.out.cell 1 _ rfl
  have c2 := hHR2.out.cell 2 _ rfl
  have cf := hHR2.out.free
  go_wp2_with (first | (go_at_call 18; refine (truth_any _ _).mono ?_; rintro e w' ⟨rfl, rfl⟩))
  go_ret
  refine ⟨g, c, rfl, hg, ?_, ?_⟩
  · exact (row3 (by simpa [World.setCell] using hg2) (fun o => by go_simp) (by go_simp) (by go_simp) (by go_simp))
  · have hgB : w.heap.size ≤ g := hg
    (repeat' (first | (with_reducible exact Below.refl _ _) | (with_reducible assumption) | (with_reducible refine below_drewN ?_ _) | (with_reducible refine Below.drew ?_) | (with_reducible refine below_new ?_ (Nat.le_refl _) _) | (with_reducible refine Below.setCell ?_ ?_ _) | (with_reducible refine below_go ?_ (by assumption) (Nat.le_refl _)) | (simp; done) | (simp; omega) | omega))

set_option maxRecDepth 100000 in
set_option maxHeartbeats 2000000 in
theorem step_up11 (q : Int) : StepC 15 3 [1, q, 1] [1, 0, 1] := by
  intro b k w hrow htab
  have HR := Lib.hid hrow
  have HT := Lib.hid htab
  have hcnt : countOf 15 = 3 := by kernel_rfl
  have HCL := clone_row b 3 k [1, q, 1] w rfl (by omega) hrow
  have hP := fun w' h => pins_any 15 w' h
  rw [hcnt] at hP
  have HP := Lib.hid hP
  have HCL' := Lib.hid HCL
  skip
  clear hrow htab HCL hP hcnt
  go_enter Tryd.func8, Tryd.ntmps8
  go_wp2_with fail
  refine HCL'.out.mono ?_
  rintro e w1 ⟨g, c, rfl, hg, hr1, hb1⟩
  have HR1 := Lib.hid hr1
  have HT1 := Lib.hid (HT.out.on hb1)
  clear hr1
  go_wp2_with fail
  refine (HP.out _ HT1.out).mono ?_
  rintro e w2 ⟨v, rfl, o, hb2⟩
  obtain ⟨A, c2, rfl, h1, h2, h3⟩ := own_form o
  have hHR2 := Lib.hid (HR1.out.below hb2)
  have hB2 : Below w.heap.size w w2 := hb1.trans (hb2.mono hb1.size)
  have hg2 := hHR2.out.lt
  clear o h1 h2 h3 HR1 HT1 HP HCL' hb1 hb2
  have c0 := hHR2.out.cell 0 _ rfl
  have c1 := hHR2.out.cell 1 _ rfl
  have c2 := hHR2.out.cell 2 _ rfl
  have cf := hHR2.out.free
  go_wp2_with (first | (go_at_call 18; refine (truth_any _ _).mono ?_; rintro e w' ⟨rfl, rfl⟩))
  go_ret
  refine ⟨g, c, rfl, hg, ?_, ?_⟩
  · exact (row3 (by simpa [World.setCell] using hg2) (fun o => by go_simp) (by go_simp) (by go_simp) (by go_simp))
  · have hgB : w.heap.size ≤ g := hg
    (repeat' (first | (with_reducible exact Below.refl _ _) | (with_reducible assumption) | (with_reducible refine below_drewN ?_ _) | (with_reducible refine Below.drew ?_) | (with_reducible refine below_new ?_ (Nat.le_refl _) _) | (with_reducible refine Below.setCell ?_ ?_ _) | (with_reducible refine below_go ?_ (by assumption) (Nat.le_refl _)) | (simp; done) | (simp; omega) | omega))

set_option maxRecDepth 100000 in
set_option maxHeartbeats 2000000 in
theorem step_down11 (q : Int) : StepC 16 3 [1, q, 1] [1, 0, 1] := by
  intro b k w hrow htab
  have HR := Lib.hid hrow
  have HT := Lib.hid htab
  have hcnt : countOf 16 = 3 := by kernel_rfl
  have HCL := clone_row b 3 k [1, q, 1] w rfl (by omega) hrow
  have hP := fun w' h => pins_any 16 w' h
  rw [hcnt] at hP
  have HP := Lib.hid hP
  have HCL' := Lib.hid HCL
  skip
  clear hrow htab HCL hP hcnt
  go_enter Tryd.func8, Tryd.ntmps8
  go_wp2_with fail
  refine HCL'.out.mono ?_
  rintro e w1 ⟨g, c, rfl, hg, hr1, hb1⟩
  have HR1 := Lib.hid hr1
  have HT1 := Lib.hid (HT.out.on hb1)
  clear hr1
  go_wp2_with fail
  refine (HP.out _ HT1.out).mono ?_
  rintro e w2 ⟨v, rfl, o, hb2⟩
  obtain ⟨A, c2, rfl, h1, h2, h3⟩ := own_form o
  have hHR2 := Lib.hid (HR1.out.below hb2)
  have hB2 : Below w.heap.size w w2 := hb1.trans (hb2.mono hb1.size)
  have hg2 := hHR2.out.lt
  clear o h1 h2 h3 HR1 HT1 HP HCL' hb1 hb2
  have c0 := hHR2.out.cell 0 _ rfl
  have c1 := hHR2.out.cell 1 _ rfl
  have c2 := hHR2.out.cell 2 _ rfl
  have cf := hHR2.out.free
  go_wp2_with (first | (go_at_call 18; refine (truth_any _ _).mono ?_; rintro e w' ⟨rfl, rfl⟩))
  go_ret
  refine ⟨g, c, rfl, hg, ?_, ?_⟩
  · exact (row3 (by simpa [World.setCell] using hg2) (fun o => by go_simp) (by go_simp) (by go_simp) (by go_simp))
  · have hgB : w.heap.size ≤ g := hg
    (repeat' (first | (with_reducible exact Below.refl _ _) | (with_reducible assumption) | (with_reducible refine below_drewN ?_ _) | (with_reducible refine Below.drew ?_) | (with_reducible refine below_new ?_ (Nat.le_refl _) _) | (with_reducible refine Below.setCell ?_ ?_ _) | (with_reducible refine below_go ?_ (by assumption) (Nat.le_refl _)) | (simp; done) | (simp; omega) | omega))

set_option maxRecDepth 100000 in
set_option maxHeartbeats 2000000 in
theorem step_sr000 : StepC 17 3 [0, 0, 0] [0, 0, 0] := by
  intro b k w hrow htab
  have HR := Lib.hid hrow
  have HT := Lib.hid htab
  have hcnt : countOf 17 = 3 := by kernel_rfl
  have HCL := clone_row b 3 k [0, 0, 0] w rfl (by omega) hrow
  have hP := fun w' h => pins_any 17 w' h
  rw [hcnt] at hP
  have HP := Lib.hid hP
  have HCL' := Lib.hid HCL
  skip
  clear hrow htab HCL hP hcnt
  go_enter Tryd.func8, Tryd.ntmps8
  go_wp2_with fail
  refine HCL'.out.mono ?_
  rintro e w1 ⟨g, c, rfl, hg, hr1, hb1⟩
  have HR1 := Lib.hid hr1
  have HT1 := Lib.hid (HT.out.on hb1)
  clear hr1
  go_wp2_with fail
  refine (HP.out _ HT1.out).mono ?_
  rintro e w2 ⟨v, rfl, o, hb2⟩
  obtain ⟨A, c2, rfl, h1, h2, h3⟩ := own_form o
  have hHR2 := Lib.hid (HR1.out.below hb2)
  have hB2 : Below w.heap.size w w2 := hb1.trans (hb2.mono hb1.size)
  have hg2 := hHR2.out.lt
  clear o h1 h2 h3 HR1 HT1 HP HCL' hb1 hb2
  have c0 := hHR2.out.cell 0 _ rfl
  have c1 := hHR2.out.cell 1 _ rfl
  have c2 := hHR2.out.cell 2 _ rfl
  have cf := hHR2.out.free
  go_wp2_with (first | (go_at_call 18; refine (truth_any _ _).mono ?_; rintro e w' ⟨rfl, rfl⟩))
  go_ret
  refine ⟨g, c, rfl, hg, ?_, ?_⟩
  · exact (row3 (by simpa [World.setCell] using hg2) (fun o => by go_simp) (by go_simp) (by go_simp) (by go_simp))
  · have hgB : w.heap.size ≤ g := hg
    (repeat' (first | (with_reducible exact Below.refl _ _) | (with_reducible assumption) | (with_reducible refine below_drewN ?_ _) | (with_reducible refine Below.drew ?_) | (with_reducible refine below_new ?_ (Nat.le_refl _) _) | (with_reducible refine Below.setCell ?_ ?_ _) | (with_reducible refine below_go ?_ (by assumption) (Nat.le_refl _)) | (simp; done) | (simp; omega) | omega))

set_option maxRecDepth 100000 in
set_option maxHeartbeats 2000000 in
theorem step_rs000 : StepC 18 3 [0, 0, 0] [0, 0, 0] := by
  intro b k w hrow htab
  have HR := Lib.hid hrow
  have HT := Lib.hid htab
  have hcnt : countOf 18 = 3 := by kernel_rfl
  have HCL := clone_row b 3 k [0, 0, 0] w rfl (by omega) hrow
  have hP := fun w' h => pins_any 18 w' h
  rw [hcnt] at hP
  have HP := Lib.hid hP
  have HCL' := Lib.hid HCL
  skip
  clear hrow htab HCL hP hcnt
  go_enter Tryd.func8, Tryd.ntmps8
  go_wp2_with fail
  refine HCL'.out.mono ?_
  rintro e w1 ⟨g, c, rfl, hg, hr1, hb1⟩
  have HR1 := Lib.hid hr1
  have HT1 := Lib.hid (HT.out.on hb1)
  clear hr1
  go_wp2_with fail
  refine (HP.out _ HT1.out).mono ?_
  rintro e w2 ⟨v, rfl, o, hb2⟩
  obtain ⟨A, c2, rfl, h1, h2, h3⟩ := own_form o
  have hHR2 := Lib.hid (HR1.out.below hb2)
  have hB2 : Below w.heap.size w w2 := hb1.trans (hb2.mono hb1.size)
  have hg2 := hHR2.out.lt
  clear o h1 h2 h3 HR1 HT1 HP HCL' hb1 hb2
  have c0 := hHR2.out.cell 0 _ rfl
  have c1 := hHR2.out.cell 1 _ rfl
  have c2 := hHR2.out.cell 2 _ rfl
  have cf := hHR2.out.free
  go_wp2_with (first | (go_at_call 18; refine (truth_any _ _).mono ?_; rintro e w' ⟨rfl, rfl⟩))
  go_ret
  refine ⟨g, c, rfl, hg, ?_, ?_⟩
  · exact (row3 (by simpa [World.setCell] using hg2) (fun o => by go_simp) (by go_simp) (by go_simp) (by go_simp))
  · have hgB : w.heap.size ≤ g := hg
    (repeat' (first | (with_reducible exact Below.refl _ _) | (with_reducible assumption) | (with_reducible refine below_drewN ?_ _) | (with_reducible refine Below.drew ?_) | (with_reducible refine below_new ?_ (Nat.le_refl _) _) | (with_reducible refine Below.setCell ?_ ?_ _) | (with_reducible refine below_go ?_ (by assumption) (Nat.le_refl _)) | (simp; done) | (simp; omega) | omega))

set_option maxRecDepth 100000 in
set_option maxHeartbeats 2000000 in
theorem step_sr001 : StepC 17 3 [0, 0, 1] [0, 0, 1] := by
  intro b k w hrow htab
  have HR := Lib.hid hrow
  have HT := Lib.hid htab
  have hcnt : countOf 17 = 3 := by kernel_rfl
  have HCL := clone_row b 3 k [0, 0, 1] w rfl (by omega) hrow
  have hP := fun w' h => pins_any 17 w' h
  rw [hcnt] at hP
  have HP := Lib.hid hP
  have HCL' := Lib.hid HCL
  skip
  clear hrow htab HCL hP hcnt
  go_enter Tryd.func8, Tryd.ntmps8
  go_wp2_with fail
  refine HCL'.out.mono ?_
  rintro e w1 ⟨g, c, rfl, hg, hr1, hb1⟩
  have HR1 := Lib.hid hr1
  have HT1 := Lib.hid (HT.out.on hb1)
  clear hr1
  go_wp2_with fail
  refine (HP.out _ HT1.out).mono ?_
  rintro e w2 ⟨v, rfl, o, hb2⟩
  obtain ⟨A, c2, rfl, h1, h2, h3⟩ := own_form o
  have hHR2 := Lib.hid (HR1.out.below hb2)
  have hB2 : Below w.heap.size w w2 := hb1.trans (hb2.mono hb1.size)
  have hg2 := hHR2.out.lt
  clear o h1 h2 h3 HR1 HT1 HP HCL' hb1 hb2
  have c0 := hHR2.out.cell 0 _ rfl
  have c1 := hHR2.out.cell 1 _ rfl
  have c2 := hHR2.out.cell 2 _ rfl
  have cf := hHR2.out.free
  go_wp2_with (first | (go_at_call 18; refine (truth_any _ _).mono ?_; rintro e w' ⟨rfl, rfl⟩))
  go_ret
  refine ⟨g, c, rfl, hg, ?_, ?_⟩
  · exact (row3 (by simpa [World.setCell] using hg2) (fun o => by go_simp) (by go_simp) (by go_simp) (by go_simp))
  · have hgB : w.heap.size ≤ g := hg
    (repeat' (first | (with_reducible exact Below.refl _ _) | (with_reducible assumption) | (with_reducible refine below_drewN ?_ _) | (with_reducible refine Below.drew ?_) | (with_reducible refine below_new ?_ (Nat.le_refl _) _) | (with_reducible refine Below.setCell ?_ ?_ _) | (with_reducible refine below_go ?_ (by assumption) (Nat.le_refl _)) | (simp; done) | (simp; omega) | omega))

set_option maxRecDepth 100000 in
set_option maxHeartbeats 2000000 in
theorem step_rs001 : StepC 18 3 [0, 0, 1] [0, 0, 1] := by
  intro b k w hrow htab
  have HR := Lib.hid hrow
  have HT := Lib.hid htab
  have hcnt : countOf 18 = 3 := by kernel_rfl
  have HCL := clone_row b 3 k [0, 0, 1] w rfl (by omega) hrow
  have hP := fun w' h => pins_any 18 w' h
  rw [hcnt] at hP
  have HP := Lib.hid hP
  have HCL' := Lib.hid HCL
  skip
  clear hrow htab HCL hP hcnt
  go_enter Tryd.func8, Tryd.ntmps8
  go_wp2_with fail
  refine HCL'.out.mono ?_
  rintro e w1 ⟨g, c, rfl, hg, hr1, hb1⟩
  have HR1 := Lib.hid hr1
  have HT1 := Lib.hid (HT.out.on hb1)
  clear hr1
  go_wp2_with fail
  refine (HP.out _ HT1.out).mono ?_
  rintro e w2 ⟨v, rfl, o, hb2⟩
  obtain ⟨A, c2, rfl, h1, h2, h3⟩ := own_form o
  have hHR2 := Lib.hid (HR1.out.below hb2)
  have hB2 : Below w.heap.size w w2 := hb1.trans (hb2.mono hb1.size)
  have hg2 := hHR2.out.lt
  clear o h1 h2 h3 HR1 HT1 HP HCL' hb1 hb2
  have c0 := hHR2.out.cell 0 _ rfl
  have c1 := hHR2.out.cell 1 _ rfl
  have c2 := hHR2.out.cell 2 _ rfl
  have cf := hHR2.out.free
  go_wp2_with (first | (go_at_call 18; refine (truth_any _ _).mono ?_; rintro e w' ⟨rfl, rfl⟩))
  go_ret
  refine ⟨g, c, rfl, hg, ?_, ?_⟩
  · exact (row3 (by simpa [World.setCell] using hg2) (fun o => by go_simp) (by go_simp) (by go_simp) (by go_simp))
  · have hgB : w.heap.size ≤ g := hg
    (repeat' (first | (with_reducible exact Below.refl _ _) | (with_reducible assumption) | (with_reducible refine below_drewN ?_ _) | (with_reducible refine Below.drew ?_) | (with_reducible refine below_new ?_ (Nat.le_refl _) _) | (with_reducible refine Below.setCell ?_ ?_ _) | (with_reducible refine below_go ?_ (by assumption) (Nat.le_refl _)) | (simp; done) | (simp; omega) | omega))

set_option maxRecDepth 100000 in
set_option maxHeartbeats 2000000 in
theorem step_sr020 : StepC 17 3 [0, 2, 0] [0, 2, 0] := by
  intro b k w hrow htab
  have HR := Lib.hid hrow
  have HT := Lib.hid htab
  have hcnt : countOf 17 = 3 := by kernel_rfl
  have HCL := clone_row b 3 k [0, 2, 0] w rfl (by omega) hrow
  have hP := fun w' h => pins_any 17 w' h
  rw [hcnt] at hP
  have HP := Lib.hid hP
  have HCL' := Lib.hid HCL
  skip
  clear hrow htab HCL hP hcnt
  go_enter Tryd.func8, Tryd.ntmps8
  go_wp2_with fail
  refine HCL'.out.mono ?_
  rintro e w1 ⟨g, c, rfl, hg, hr1, hb1⟩
  have HR1 := Lib.hid hr1
  have HT1 := Lib.hid (HT.out.on hb1)
  clear hr1
  go_wp2_with fail
  refine (HP.out _ HT1.out).mono ?_
  rintro e w2 ⟨v, rfl, o, hb2⟩
  obtain ⟨A, c2, rfl, h1, h2, h3⟩ := own_form o
  have hHR2 := Lib.hid (HR1.out.below hb2)
  have hB2 : Below w.heap.size w w2 := hb1.trans (hb2.mono hb1.size)
  have hg2 := hHR2.out.lt
  clear o h1 h2 h3 HR1 HT1 HP HCL' hb1 hb2
  have c0 := hHR2.out.cell 0 _ rfl
  have c1 := hHR2.out.cell 1 _ rfl
  have c2 := hHR2.out.cell 2 _ rfl
  have cf := hHR2.out.free
  go_wp2_with (first | (go_at_call 18; refine (truth_any _ _).mono ?_; rintro e w' ⟨rfl, rfl⟩))
  go_ret
  refine ⟨g, c, rfl, hg, ?_, ?_⟩
  · exact (row3 (by simpa [World.setCell] using hg2) (fun o => by go_simp) (by go_simp) (by go_simp) (by go_simp))
  · have hgB : w.heap.size ≤ g := hg
    (repeat' (first | (with_reducible exact Below.refl _ _) | (with_reducible assumption) | (with_reducible refine below_drewN ?_ _) | (with_reducible refine Below.drew ?_) | (with_reducible refine below_new ?_ (Nat.le_refl _) _) | (with_reducible refine Below.setCell ?_ ?_ _) | (with_reducible refine below_go ?_ (by assumption) (Nat.le_refl _)) | (simp; done) | (simp; omega) | omega))

set_option maxRecDepth 100000 in
set_option maxHeartbeats 2000000 in
theorem step_rs020 : StepC 18 3 [0, 2, 0] [0, 2, 0] := by
  intro b k w hrow htab
  have HR := Lib.hid hrow
  have HT := Lib.hid htab
  have hcnt : countOf 18 = 3 := by kernel_rfl
  have HCL := clone_row b 3 k [0, 2, 0] w rfl (by omega) hrow
  have hP := fun w' h => pins_any 18 w' h
  rw [hcnt] at hP
  have HP := Lib.hid hP
  have HCL' := Lib.hid HCL
  skip
  clear hrow htab HCL hP hcnt
  go_enter Tryd.func8, Tryd.ntmps8
  go_wp2_with fail
  refine HCL'.out.mono ?_
  rintro e w1 ⟨g, c, rfl, hg, hr1, hb1⟩
  have HR1 := Lib.hid hr1
  have HT1 := Lib.hid (HT.out.on hb1)
  clear hr1
  go_wp2_with fail
  refine (HP.out _ HT1.out).mono ?_
  rintro e w2 ⟨v, rfl, o, hb2⟩
  obtain ⟨A, c2, rfl, h1, h2, h3⟩ := own_form o
  have hHR2 := Lib.hid (HR1.out.below hb2)
  have hB2 : Below w.heap.size w w2 := hb1.trans (hb2.mono hb1.size)
  have hg2 := hHR2.out.lt
  clear o h1 h2 h3 HR1 HT1 HP HCL' hb1 hb2
  have c0 := hHR2.out.cell 0 _ rfl
  have c1 := hHR2.out.cell 1 _ rfl
  have c2 := hHR2.out.cell 2 _ rfl
  have cf := hHR2.out.free
  go_wp2_with (first | (go_at_call 18; refine (truth_any _ _).mono ?_; rintro e w' ⟨rfl, rfl⟩))
  go_ret
  refine ⟨g, c, rfl, hg, ?_, ?_⟩
  · exact (row3 (by simpa [World.setCell] using hg2) (fun o => by go_simp) (by go_simp) (by go_simp) (by go_simp))
  · have hgB : w.heap.size ≤ g := hg
    (repeat' (first | (with_reducible exact Below.refl _ _) | (with_reducible assumption) | (with_reducible refine below_drewN ?_ _) | (with_reducible refine Below.drew ?_) | (with_reducible refine below_new ?_ (Nat.le_refl _) _) | (with_reducible refine Below.setCell ?_ ?_ _) | (with_reducible refine below_go ?_ (by assumption) (Nat.le_refl _)) | (simp; done) | (simp; omega) | omega))

set_option maxRecDepth 100000 in
set_option maxHeartbeats 2000000 in
theorem step_sr021 : StepC 17 3 [0, 2, 1] [0, 2, 0] := by
  intro b k w hrow htab
  have HR := Lib.hid hrow
  have HT := Lib.hid htab
  have hcnt : countOf 17 = 3 := by kernel_rfl
  have HCL := clone_row b 3 k [0, 2, 1] w rfl (by omega) hrow
  have hP := fun w' h => pins_any 17 w' h
  rw [hcnt] at hP
  have HP := Lib.hid hP
  have HCL' := Lib.hid HCL
  skip
  clear hrow htab HCL hP hcnt
  go_enter Tryd.func8, Tryd.ntmps8
  go_wp2_with fail
  refine HCL'.out.mono ?_
  rintro e w1 ⟨g, c, rfl, hg, hr1, hb1⟩
  have HR1 := Lib.hid hr1
  have HT1 := Lib.hid (HT.out.on hb1)
  clear hr1
  go_wp2_with fail
  refine (HP.out _ HT1.out).mono ?_
  rintro e w2 ⟨v, rfl, o, hb2⟩
  obtain ⟨A, c2, rfl, h1, h2, h3⟩ := own_form o
  have hHR2 := Lib.hid (HR1.out.below hb2)
  have hB2 : Below w.heap.size w w2 := hb1.trans (hb2.mono hb1.size)
  have hg2 := hHR2.out.lt
  clear o h1 h2 h3 HR1 HT1 HP HCL' hb1 hb2
  have c0 := hHR2.out.cell 0 _ rfl
  have c1 := hHR2.out.cell 1 _ rfl
  have c2 := hHR2.out.cell 2 _ rfl
  have cf := hHR2.out.free
  go_wp2_with (first | (go_at_call 18; refine (truth_any _ _).mono ?_; rintro e w' ⟨rfl, rfl⟩))
  go_ret
  refine ⟨g, c, rfl, hg, ?_, ?_⟩
  · exact (row3 (by simpa [World.setCell] using hg2) (fun o => by go_simp) (by go_simp) (by go_simp) (by go_simp))
  · have hgB : w.heap.size ≤ g := hg
    (repeat' (first | (with_reducible exact Below.refl _ _) | (with_reducible assumption) | (with_reducible refine below_drewN ?_ _) | (with_reducible refine Below.drew ?_) | (with_reducible refine below_new ?_ (Nat.le_refl _) _) | (with_reducible refine Below.setCell ?_ ?_ _) | (with_reducible refine below_go ?_ (by assumption) (Nat.le_refl _)) | (simp; done) | (simp; omega) | omega))

set_option maxRecDepth 100000 in
set_option maxHeartbeats 2000000 in
theorem step_rs021 : StepC 18 3 [0, 2, 1] [0, 2, 0] := by
  intro b k w hrow htab
  have HR := Lib.hid hrow
  have HT := Lib.hid htab
  have hcnt : countOf 18 = 3 := by kernel_rfl
  have HCL := clone_row b 3 k [0, 2, 1] w rfl (by omega) hrow
  have hP := fun w' h => pins_any 18 w' h
  rw [hcnt] at hP
  have HP := Lib.hid hP
  have HCL' := Lib.hid HCL
  skip
  clear hrow htab HCL hP hcnt
  go_enter Tryd.func8, Tryd.ntmps8
  go_wp2_with fail
  refine HCL'.out.mono ?_
  rintro e w1 ⟨g, c, rfl, hg, hr1, hb1⟩
  have HR1 := Lib.hid hr1
  have HT1 := Lib.hid (HT.out.on hb1)
  clear hr1
  go_wp2_with fail
  refine (HP.out _ HT1.out).mono ?_
  rintro e w2 ⟨v, rfl, o, hb2⟩
  obtain ⟨A, c2, rfl, h1, h2, h3⟩ := own_form o
  have hHR2 := Lib.hid (HR1.out.below hb2)
  have hB2 : Below w.heap.size w w2 := hb1.trans (hb2.mono hb1.size)
  have hg2 := hHR2.out.lt
  clear o h1 h2 h3 HR1 HT1 HP HCL' hb1 hb2
  have c0 := hHR2.out.cell 0 _ rfl
  have c1 := hHR2.out.cell 1 _ rfl
  have c2 := hHR2.out.cell 2 _ rfl
  have cf := hHR2.out.free
  go_wp2_with (first | (go_at_call 18; refine (truth_any _ _).mono ?_; rintro e w' ⟨rfl, rfl⟩))
  go_ret
  refine ⟨g, c, rfl, hg, ?_, ?_⟩
  · exact (row3 (by simpa [World.setCell] using hg2) (fun o => by go_simp) (by go_simp) (by go_simp) (by go_simp))
  · have hgB : w.heap.size ≤ g := hg
    (repeat' (first | (with_reducible exact Below.refl _ _) | (with_reducible assumption) | (with_reducible refine below_drewN ?_ _) | (with_reducible refine Below.drew ?_) | (with_reducible refine below_new ?_ (Nat.le_refl _) _) | (with_reducible refine Below.setCell ?_ ?_ _) | (with_reducible refine below_go ?_ (by assumption) (Nat.le_refl _)) | (simp; done) | (simp; omega) | omega))

set_option maxRecDepth 100000 in
set_option maxHeartbeats 2000000 in
theorem step_sr100 : StepC 17 3 [1, 0, 0] [1, 0, 1] := by
  intro b k w hrow htab
  have HR := Lib.hid hrow
  have HT := Lib.hid htab
  have hcnt : countOf 17 = 3 := by kernel_rfl
  have HCL := clone_row b 3 k [1, 0, 0] w rfl (by omega) hrow
  have hP := fun w' h => pins_any 17 w' h
  rw [hcnt] at hP
  have HP := Lib.hid hP
  have HCL' := Lib.hid HCL
  skip
  clear hrow htab HCL hP hcnt
  go_enter Tryd.func8, Tryd.ntmps8
  go_wp2_with fail
  refine HCL'.out.mono ?_
  rintro e w1 ⟨g, c, rfl, hg, hr1, hb1⟩
  have HR1 := Lib.hid hr1
  have HT1 := Lib.hid (HT.out.on hb1)
  clear hr1
  go_wp2_with fail
  refine (HP.out _ HT1.out).mono ?_
  rintro e w2 ⟨v, rfl, o, hb2⟩
  obtain ⟨A, c2, rfl, h1, h2, h3⟩ := own_form o
  have hHR2 := Lib.hid (HR1.out.below hb2)
  have hB2 : Below w.heap.size w w2 := hb1.trans (hb2.mono hb1.size)
  have hg2 := hHR2.out.lt
  clear o h1 h2 h3 HR1 HT1 HP HCL' hb1 hb2
  have c0 := hHR2.out.cell 0 _ rfl
  have c1 := hHR2.out.cell 1 _ rfl
  have c2 := hHR2.out.cell 2 _ rfl
  have cf := hHR2.out.free
  go_wp2_with (first | (go_at_call 18; refine (truth_any _ _).mono ?_; rintro e w' ⟨rfl, rfl⟩))
  go_ret
  refine ⟨g, c, rfl, hg, ?_, ?_⟩
  · exact (row3 (by simpa [World.setCell] using hg2) (fun o => by go_simp) (by go_simp) (by go_simp) (by go_simp))
  · have hgB : w.heap.size ≤ g := hg
    (repeat' (first | (with_reducible exact Below.refl _ _) | (with_reducible assumption) | (with_reducible refine below_drewN ?_ _) | (with_reducible refine Below.drew ?_) | (with_reducible refine below_new ?_ (Nat.le_refl _) _) | (with_reducible refine Below.setCell ?_ ?_ _) | (with_reducible refine below_go ?_ (by assumption) (Nat.le_refl _)) | (simp; done) | (simp; omega) | omega))

set_option maxRecDepth 100000 in
set_option maxHeartbeats 2000000 in
theorem step_rs100 : StepC 18 3 [1, 0, 0] [1, 0, 1] := by
  intro b k w hrow htab
  have HR := Lib.hid hrow
  have HT := Lib.hid htab
  have hcnt : countOf 18 = 3 := by kernel_rfl
  have HCL := clone_row b 3 k [1, 0, 0] w rfl (by omega) hrow
  have hP := fun w' h => pins_any 18 w' h
  rw [hcnt] at hP
  have HP := Lib.hid hP
  have HCL' := Lib.hid HCL
  skip
  clear hrow htab HCL hP hcnt
  go_enter Tryd.func8, Tryd.ntmps8
  go_wp2_with fail
  refine HCL'.out.mono ?_
  rintro e w1 ⟨g, c, rfl, hg, hr1, hb1⟩
  have HR1 := Lib.hid hr1
  have HT1 := Lib.hid (HT.out.on hb1)
  clear hr1
  go_wp2_with fail
  refine (HP.out _ HT1.out).mono ?_
  rintro e w2 ⟨v, rfl, o, hb2⟩
  obtain ⟨A, c2, rfl, h1, h2, h3⟩ := own_form o
  have hHR2 := Lib.hid (HR1.out.below hb2)
  have hB2 : Below w.heap.size w w2 := hb1.trans (hb2.mono hb1.size)
  have hg2 := hHR2.out.lt
  clear o h1 h2 h3 HR1 HT1 HP HCL' hb1 hb2
  have c0 := hHR2.out.cell 0 _ rfl
  have c1 := hHR2.out.cell 1 _ rfl
  have c2 := hHR2.out.cell 2 _ rfl
  have cf := hHR2.out.free
  go_wp2_with (first | (go_at_call 18; refine (truth_any _ _).mono ?_; rintro e w' ⟨rfl, rfl⟩))
  go_ret
  refine ⟨g, c, rfl, hg, ?_, ?_⟩
  · exact (row3 (by simpa [World.setCell] using hg2) (fun o => by go_simp) (by go_simp) (by go_simp) (by go_simp))
  · have hgB : w.heap.size ≤ g := hg
    (repeat' (first | (with_reducible exact Below.refl _ _) | (with_reducible assumption) | (with_reducible refine below_drewN ?_ _) | (with_reducible refine Below.drew ?_) | (with_reducible refine below_new ?_ (Nat.le_refl _) _) | (with_reducible refine Below.setCell ?_ ?_ _) | (with_reducible refine below_go ?_ (by assumption) (Nat.le_refl _)) | (simp; done) | (simp; omega) | omega))

set_option maxRecDepth 100000 in
set_option maxHeartbeats 2000000 in
theorem step_sr101 : StepC 17 3 [1, 0, 1] [1, 0, 1] := by
  intro b k w hrow htab
  have HR := Lib.hid hrow
  have HT := Lib.hid htab
  have hcnt : countOf 17 = 3 := by kernel_rfl
  have HCL := clone_row b 3 k [1, 0, 1] w rfl (by omega) hrow
  have hP := fun w' h => pins_any 17 w' h
  rw [hcnt] at hP
  have HP := Lib.hid hP
  have HCL' := Lib.hid HCL
  skip
  clear hrow htab HCL hP hcnt
  go_enter Tryd.func8, Tryd.ntmps8
  go_wp2_with fail
  refine HCL'.out.mono ?_
  rintro e w1 ⟨g, c, rfl, hg, hr1, hb1⟩
  have HR1 := Lib.hid hr1
  have HT1 := Lib.hid (HT.out.on hb1)
  clear hr1
  go_wp2_with fail
  refine (HP.out _ HT1.out).mono ?_
  rintro e w2 ⟨v, rfl, o, hb2⟩
  obtain ⟨A, c2, rfl, h1, h2, h3⟩ := own_form o
  have hHR2 := Lib.hid (HR1.out.below hb2)
  have hB2 : Below w.heap.size w w2 := hb1.trans (hb2.mono hb1.size)
  have hg2 := hHR2.out.lt
  clear o h1 h2 h3 HR1 HT1 HP HCL' hb1 hb2
  have c0 := hHR2.out.cell 0 _ rfl
  have c1 := hHR2.out.cell 1 _ rfl
  have c2 := hHR2.out.cell 2 _ rfl
  have cf := hHR2.out.free
  go_wp2_with (first | (go_at_call 18; refine (truth_any _ _).mono ?_; rintro e w' ⟨rfl, rfl⟩))
  go_ret
  refine ⟨g, c, rfl, hg, ?_, ?_⟩
  · exact (row3 (by simpa [World.setCell] using hg2) (fun o => by go_simp) (by go_simp) (by go_simp) (by go_simp))
  · have hgB : w.heap.size ≤ g := hg
    (repeat' (first | (with_reducible exact Below.refl _ _) | (with_reducible assumption) | (with_reducible refine below_drewN ?_ _) | (with_reducible refine Below.drew ?_) | (with_reducible refine below_new ?_ (Nat.le_refl _) _) | (with_reducible refine Below.setCell ?_ ?_ _) | (with_reducible refine below_go ?_ (by assumption) (Nat.le_refl _)) | (simp; done) | (simp; omega) | omega))

set_option maxRecDepth 100000 in
set_option maxHeartbeats 2000000 in
theorem step_rs101 : StepC 18 3 [1, 0, 1] [1, 0, 1] := by
  intro b k w hrow htab
  have HR := Lib.hid hrow
  have HT := Lib.hid htab
  have hcnt : countOf 18 = 3 := by kernel_rfl
  have HCL := clone_row b 3 k [1, 0, 1] w rfl (by omega) hrow
  have hP := fun w' h => pins_any 18 w' h
  rw [hcnt] at hP
  have HP := Lib.hid hP
  have HCL' := Lib.hid HCL
  skip
  clear hrow htab HCL hP hcnt
  go_enter Tryd.func8, Tryd.ntmps8
  go_wp2_with fail
  refine HCL'.out.mono ?_
  rintro e w1 ⟨g, c, rfl, hg, hr1, hb1⟩
  have HR1 := Lib.hid hr1
  have HT1 := Lib.hid (HT.out.on hb1)
  clear hr1
  go_wp2_with fail
  refine (HP.out _ HT1.out).mono ?_
  rintro e w2 ⟨v, rfl, o, hb2⟩
  obtain ⟨A, c2, rfl, h1, h2, h3⟩ := own_form o
  have hHR2 := Lib.hid (HR1.out.below hb2)
  have hB2 : Below w.heap.size w w2 := hb1.trans (hb2.mono hb1.size)
  have hg2 := hHR2.out.lt
  clear o h1 h2 h3 HR1 HT1 HP HCL' hb1 hb2
  have c0 := hHR2.out.cell 0 _ rfl
  have c1 := hHR2.out.cell 1 _ rfl
  have c2 := hHR2.out.cell 2 _ rfl
  have cf := hHR2.out.free
  go_wp2_with (first | (go_at_call 18; refine (truth_any _ _).mono ?_; rintro e w' ⟨rfl, rfl⟩))
  go_ret
  refine ⟨g, c, rfl, hg, ?_, ?_⟩
  · exact (row3 (by simpa [World.setCell] using hg2) (fun o => by go_simp) (by go_simp) (by go_simp) (by go_simp))
  · have hgB : w.heap.size ≤ g := hg
    (repeat' (first | (with_reducible exact Below.refl _ _) | (with_reducible assumption) | (with_reducible refine below_drewN ?_ _) | (with_reducible refine Below.drew ?_) | (with_reducible refine below_new ?_ (Nat.le_refl _) _) | (with_reducible refine Below.setCell ?_ ?_ _) | (with_reducible refine below_go ?_ (by assumption) (Nat.le_refl _)) | (simp; done) | (simp; omega) | omega))

set_option maxRecDepth 100000 in
set_option maxHeartbeats 2000000 in
theorem step_sr120 : StepC 17 3 [1, 2, 0] [1, 2, 1] := by
  intro b k w hrow htab
  have HR := Lib.hid hrow
  have HT := Lib.hid htab
  have hcnt : countOf 17 = 3 := by kernel_rfl
  have HCL := clone_row b 3 k [1, 2, 0] w rfl (by omega) hrow
  have hP := fun w' h => pins_any 17 w' h
  rw [hcnt] at hP
  have HP := Lib.hid hP
  have HCL' := Lib.hid HCL
  skip
  clear hrow htab HCL hP hcnt
  go_enter Tryd.func8, Tryd.ntmps8
  go_wp2_with fail
  refine HCL'.out.mono ?_
  rintro e w1 ⟨g, c, rfl, hg, hr1, hb1⟩
  have HR1 := Lib.hid hr1
  have HT1 := Lib.hid (HT.out.on hb1)
  clear hr1
  go_wp2_with fail
  refine (HP.out _ HT1.out).mono ?_
  rintro e w2 ⟨v, rfl, o, hb2⟩
  obtain ⟨A, c2, rfl, h1, h2, h3⟩ := own_form o
  have hHR2 := Lib.hid (HR1.out.below hb2)
  have hB2 : Below w.heap.size w w2 := hb1.trans (hb2.mono hb1.size)
  have hg2 := hHR2.out.lt
  clear o h1 h2 h3 HR1 HT1 HP HCL' hb1 hb2
  have c0 := hHR2.out.cell 0 _ rfl
  have c1 := hHR2.out.cell 1 _ rfl
  have c2 := hHR2.out.cell 2 _ rfl
  have cf := hHR2.out.free
  go_wp2_with (first | (go_at_call 18; refine (truth_any _ _).mono ?_; rintro e w' ⟨rfl, rfl⟩))
  go_ret
  refine ⟨g, c, rfl, hg, ?_, ?_⟩
  · exact (row3 (by simpa [World.setCell] using hg2) (fun o => by go_simp) (by go_simp) (by go_simp) (by go_simp))
  · have hgB : w.heap.size ≤ g := hg
    (repeat' (first | (with_reducible exact Below.refl _ _) | (with_reducible assumption) | (with_reducible refine below_drewN ?_ _) | (with_reducible refine Below.drew ?_) | (with_reducible refine below_new ?_ (Nat.le_refl _) _) | (with_reducible refine Below.setCell ?_ ?_ _) | (with_reducible refine below_go ?_ (by assumption) (Nat.le_refl _)) | (simp; done) | (simp; omega) | omega))

set_option maxRecDepth 100000 in
set_option maxHeartbeats 2000000 in
theorem step_rs120 : StepC 18 3 [1, 2, 0] [1, 2, 0] := by
  intro b k w hrow htab
  have HR := Lib.hid hrow
  have HT := Lib.hid htab
  have hcnt : countOf 18 = 3 := by kernel_rfl
  have HCL := clone_row b 3 k [1, 2, 0] w rfl (by omega) hrow
  have hP := fun w' h => pins_any 18 w' h
  rw [hcnt] at hP
  have HP := Lib.hid hP
  have HCL' := Lib.hid HCL
  skip
  clear hrow htab HCL hP hcnt
  go_enter Tryd.func8, Tryd.ntmps8
  go_wp2_with fail
  refine HCL'.out.mono ?_
  rintro e w1 ⟨g, c, rfl, hg, hr1, hb1⟩
  have HR1 := Lib.hid hr1
  have HT1 := Lib.hid (HT.out.on hb1)
  clear hr1
  go_wp2_with fail
  refine (HP.out _ HT1.out).mono ?_
  rintro e w2 ⟨v, rfl, o, hb2⟩
  obtain ⟨A, c2, rfl, h1, h2, h3⟩ := own_form o
  have hHR2 := Lib.hid (HR1.out.below hb2)
  have hB2 : Below w.heap.size w w2 := hb1.trans (hb2.mono hb1.size)
  have hg2 := hHR2.out.lt
  clear o h1 h2 h3 HR1 HT1 HP HCL' hb1 hb2
  have c0 := hHR2.out.cell 0 _ rfl
  have c1 := hHR2.out.cell 1 _ rfl
  have c2 := hHR2.out.cell 2 _ rfl
  have cf := hHR2.out.free
  go_wp2_with (first | (go_at_call 18; refine (truth_any _ _).mono ?_; rintro e w' ⟨rfl, rfl⟩))
  go_ret
  refine ⟨g, c, rfl, hg, ?_, ?_⟩
  · exact (row3 (by simpa [World.setCell] using hg2) (fun o => by go_simp) (by go_simp) (by go_simp) (by go_simp))
  · have hgB : w.heap.size ≤ g := hg
    (repeat' (first | (with_reducible exact Below.refl _ _) | (with_reducible assumption) | (with_reducible refine below_drewN ?_ _) | (with_reducible refine Below.drew ?_) | (with_reducible refine below_new ?_ (Nat.le_refl _) _) | (with_reducible refine Below.setCell ?_ ?_ _) | (with_reducible refine below_go ?_ (by assumption) (Nat.le_refl _)) | (simp; done) | (simp; omega) | omega))

set_option maxRecDepth 100000 in
set_option maxHeartbeats 2000000 in
theorem step_sr121 : StepC 17 3 [1, 2, 1] [1, 2, 1] := by
  intro b k w hrow htab
  have HR := Lib.hid hrow
  have HT := Lib.hid htab
  have hcnt : countOf 17 = 3 := by kernel_rfl
  have HCL := clone_row b 3 k [1, 2, 1] w rfl (by omega) hrow
  have hP := fun w' h => pins_any 17 w' h
  rw [hcnt] at hP
  have HP := Lib.hid hP
  have HCL' := Lib.hid HCL
  skip
  clear hrow htab HCL hP hcnt
  go_enter Tryd.func8, Tryd.ntmps8
  go_wp2_with fail
  refine HCL'.out.mono ?_
  rintro e w1 ⟨g, c, rfl, hg, hr1, hb1⟩
  have HR1 := Lib.hid hr1
  have HT1 := Lib.hid (HT.out.on hb1)
  clear hr1
  go_wp2_with fail
  refine (HP.out _ HT1.out).mono ?_
  rintro e w2 ⟨v, rfl, o, hb2⟩
  obtain ⟨A, c2, rfl, h1, h2, h3⟩ := own_form o
  have hHR2 := Lib.hid (HR1.out.below hb2)
  have hB2 : Below w.heap.size w w2 := hb1.trans (hb2.mono hb1.size)
  have hg2 := hHR2.out.lt
  clear o h1 h2 h3 HR1 HT1 HP HCL' hb1 hb2
  have c0 := hHR2.out.cell 0 _ rfl
  have c1 := hHR2.out.cell 1 _ rfl
  have c2 := hHR2.out.cell 2 _ rfl
  have cf := hHR2.out.free
  go_wp2_with (first | (go_at_call 18; refine (truth_any _ _).mono ?_; rintro e w' ⟨rfl, rfl⟩))
  go_ret
  refine ⟨g, c, rfl, hg, ?_, ?_⟩
  · exact (row3 (by simpa [World.setCell] using hg2) (fun o => by go_simp) (by go_simp) (by go_simp) (by go_simp))
  · have hgB : w.heap.size ≤ g := hg
    (repeat' (first | (with_reducible exact Below.refl _ _) | (with_reducible assumption) | (with_reducible refine below_drewN ?_ _) | (with_reducible refine Below.drew ?_) | (with_reducible refine below_new ?_ (Nat.le_refl _) _) | (with_reducible refine Below.setCell ?_ ?_ _) | (with_reducible refine below_go ?_ (by assumption) (Nat.le_refl _)) | (simp; done) | (simp; omega) | omega))

set_option maxRecDepth 100000 in
set_option maxHeartbeats 2000000 in
theorem step_rs121 : StepC 18 3 [1, 2, 1] [1, 2, 0] := by
  intro b k w hrow htab
  have HR := Lib.hid hrow
  have HT := Lib.hid htab
  have hcnt : countOf 18 = 3 := by kernel_rfl
  have HCL := clone_row b 3 k [1, 2, 1] w rfl (by omega) hrow
  have hP := fun w' h => pins_any 18 w' h
  rw [hcnt] at hP
  have HP := Lib.hid hP
  have HCL' := Lib.hid HCL
  skip
  clear hrow htab HCL hP hcnt
  go_enter Tryd.func8, Tryd.ntmps8
  go_wp2_with fail
  refine HCL'.out.mono ?_
  rintro e w1 ⟨g, c, rfl, hg, hr1, hb1⟩
  have HR1 := Lib.hid hr1
  have HT1 := Lib.hid (HT.out.on hb1)
  clear hr1
  go_wp2_with fail
  refine (HP.out _ HT1.out).mono ?_
  rintro e w2 ⟨v, rfl, o, hb2⟩
  obtain ⟨A, c2, rfl, h1, h2, h3⟩ := own_form o
  have hHR2 := Lib.hid (HR1.out.below hb2)
  have hB2 : Below w.heap.size w w2 := hb1.trans (hb2.mono hb1.size)
  have hg2 := hHR2.out.lt
  clear o h1 h2 h3 HR1 HT1 HP HCL' hb1 hb2
  have c0 := hHR2.out.cell 0 _ rfl
  have c1 := hHR2.out.cell 1 _ rfl
  have c2 := hHR2.out.cell 2 _ rfl
  have cf := hHR2.out.free
  go_wp2_with (first | (go_at_call 18; refine (truth_any _ _).mono ?_; rintro e w' ⟨rfl, rfl⟩))
  go_ret
  refine ⟨g, c, rfl, hg, ?_, ?_⟩
  · exact (row3 (by simpa [World.setCell] using hg2) (fun o => by go_simp) (by go_simp) (by go_simp) (by go_simp))
  · have hgB : w.heap.size ≤ g := hg
    (repeat' (first | (with_reducible exact Below.refl _ _) | (with_reducible assumption) | (with_reducible refine below_drewN ?_ _) | (with_reducible refine Below.drew ?_) | (with_reducible refine below_new ?_ (Nat.le_refl _) _) | (with_reducible refine Below.setCell ?_ ?_ _) | (with_reducible refine below_go ?_ (by assumption) (Nat.le_refl _)) | (simp; done) | (simp; omega) | omega))

end Go.Proofs.YtedmhafpaielmaaDoor
