/- Layer 15: the speed that is wanted: the others. PRINTED by wip/tool/mkwanted.py -/
import Derived.Test.YthhfnageadckkaaGreatAxQ2
set_option maxHeartbeats 4000000
namespace Go.Proofs.YthhfnageadckkaaGreat
open Go.RowKit
set_option linter.unusedVariables false
set_option linter.unusedSimpArgs false
attribute [local go_sem] ite_max ite_min vite_max vite_min ext_cell ext_frozen

set_option maxRecDepth 100000 in
theorem awant_n (s : WS) (K : Nat) (rv : Value) (W : World) (h : WK W K s rv) (hst : s.a.st ≠ 2) (ho : (underX s.a).ok = false) :
  Calls Tryz.prog 73 #[.pointer (some ⟨K, 0, none⟩)] W fun z w' => z = .returned (.tuple #[.int .i64 (wantX s.a s.i).v, .bool (wantX s.a s.i).by_]) ∧ WK w' K { s with a := (wantX s.a s.i).a } rv ∧ Turn K rv rv W w' := by
 obtain ⟨x, o, hu⟩ : ∃ x o, underX s.a = ⟨x, o⟩ := ⟨_, _, rfl⟩
 obtain ⟨b, hbn⟩ : ∃ b, bndX s.a = b := ⟨_, rfl⟩
 have HU := Lib.hid hu
 have HBN := Lib.hid hbn
 have HEQ : Hid (wantX s.a s.i = ⟨s.a, 0, false⟩) := Lib.hid (by unfold wantX; rw [if_neg hst, if_pos ho])
 rw [hu] at ho
 obtain rfl : o = false := ho
 have us2 : (s.a.st == 2) = false := by simp [hst]
 clear hu hbn hst
 have HW := Lib.hid h
 clear h
 go_enter Tryz.func73, Tryz.ntmps73
 go_wp2_with fail
 refine (aunder_at s ⟨x, false⟩ K rv _ HW.out HU.out).mono ?_
 simp only [CmdS.val]
 rintro e w5 ⟨rfl, hb5⟩
 have HW5 := Lib.hid (HW.out.below hb5)
 have HT5 : Hid (Turn K rv rv W w5) := Lib.hid (Turn.of_below hb5)
 clear hb5
 go_upto_region 2 with (fail)
 refine wp_name fun W6 hW => ?_
 obtain ⟨C, hB⟩ : ∃ B, B = w5.heap.size := ⟨_, rfl⟩
 have hbel : Below w5.heap.size w5 W6 := by rw [hW.out]; exact belowBy
 have hlC : C < W6.heap.size := by rw [hW.out, hB]; simp
 have c0 : W6.cell? ⟨C, 0, none⟩ = some (.int .i64 x.id) := by rw [hW.out, hB]; go_simp
 have c1 : W6.cell? ⟨C, 1, none⟩ = some (.int .i64 x.kind) := by rw [hW.out, hB]; go_simp
 have c2 : W6.cell? ⟨C, 2, none⟩ = some (.int .i64 x.target) := by rw [hW.out, hB]; go_simp
 have c3 : W6.cell? ⟨C, 3, none⟩ = some (.int .i64 x.speed) := by rw [hW.out, hB]; go_simp
 have c4 : W6.cell? ⟨C, 4, none⟩ = some (.int .i64 x.mode) := by rw [hW.out, hB]; go_simp
 have c5 : W6.cell? ⟨C, 5, none⟩ = some (.int .i64 x.num) := by rw [hW.out, hB]; go_simp
 have c6 : W6.cell? ⟨C, 6, none⟩ = some (.int .i64 x.den) := by rw [hW.out, hB]; go_simp
 have hKC : K < C := by have := HW5.out.lt; omega
 obtain ⟨sv, nv, wv, cv, hp⟩ := HW5.out.below hbel
 have HP6 := Lib.hid hp
 have HT6 := Lib.hid (HT5.out.trans (Turn.of_below hbel))
 obtain ⟨L, hL⟩ := axL_some s.a sv nv wv
 have HAL := Lib.hid hL
 have HRG := Lib.hid (hp.range hL)
 have lK6 := hp.lt
 (try rw [← hB])
 (try simp only [Act.put])
 clear hW hB hbel hp hL HW5 HT5
 go_wp2_with (refine wpList_load_mid rfl 35 _ rfl K 0 rfl L _ HRG.out Tryz.underlying35 rfl HAL.out.size ?_)
 refine (abounds_L s.a sv nv wv L b W6 HAL.out HBN.out).mono ?_
 rintro e w7 ⟨rfl, hb7⟩
 have HB7 := Lib.hid hb7
 clear hb7 lK6
 go_upto_region 3 with (fail)
 refine wp_name fun W8 hW => ?_
 obtain ⟨Y, hB⟩ : ∃ B, B = w7.heap.size := ⟨_, rfl⟩
 have hbel : Below w7.heap.size w7 W8 := by rw [hW.out]; exact belowBy
 have lY : Y < W8.heap.size := by rw [hW.out, hB]; simp
 have y0 : W8.cell? ⟨Y, 0, none⟩ = some (.int .i64 b.v) := by rw [hW.out, hB]; go_simp
 have y1 : W8.cell? ⟨Y, 1, none⟩ = some (.int .i64 b.a) := by rw [hW.out, hB]; go_simp
 have y2 : W8.cell? ⟨Y, 2, none⟩ = some (.int .i64 b.d) := by rw [hW.out, hB]; go_simp
 have y3 : W8.cell? ⟨Y, 3, none⟩ = some (.int .i64 b.lo) := by rw [hW.out, hB]; go_simp
 have y4 : W8.cell? ⟨Y, 4, none⟩ = some (.int .i64 b.hi) := by rw [hW.out, hB]; go_simp
 have hba : Below W6.heap.size W6 W8 := HB7.out.trans (hbel.mono HB7.out.size)
 have x0 := (hba.cell (p := ⟨C, 0, none⟩) hlC).trans c0
 have x1 := (hba.cell (p := ⟨C, 1, none⟩) hlC).trans c1
 have x2 := (hba.cell (p := ⟨C, 2, none⟩) hlC).trans c2
 have x3 := (hba.cell (p := ⟨C, 3, none⟩) hlC).trans c3
 have x4 := (hba.cell (p := ⟨C, 4, none⟩) hlC).trans c4
 have x5 := (hba.cell (p := ⟨C, 5, none⟩) hlC).trans c5
 have x6 := (hba.cell (p := ⟨C, 6, none⟩) hlC).trans c6
 have lC := Nat.lt_of_lt_of_le hlC hba.size
 have HP8 := Lib.hid (HP6.out.below hba)
 have HT8 := Lib.hid (HT6.out.trans (Turn.of_below hba))
 have hp8 := HP8.out
 (try rw [← hB])
 (try simp only [Act.put])
 clear hW hB hbel hba hlC c0 c1 c2 c3 c4 c5 c6 HP6 HT6 HB7 HRG HAL
 have c_st := hp8.cell 0 _ rfl
 have lK := hp8.lt
 have fK := hp8.froz
 clear hp8
 go_wp2
 go_ret2
 rw [HEQ.out]
 exact ⟨rfl, ⟨_, _, _, _, HP8.out⟩, HT8.out⟩

set_option maxRecDepth 100000 in
theorem awant_5 (s : WS) (K : Nat) (rv : Value) (W : World) (h : WK W K s rv) (hst : s.a.st = 5) (ho : (underX s.a).ok = true) (v : Int) (hv : scaledX s.a (underX s.a).x.speed = v) :
  Calls Tryz.prog 73 #[.pointer (some ⟨K, 0, none⟩)] W fun z w' => z = .returned (.tuple #[.int .i64 (wantX s.a s.i).v, .bool (wantX s.a s.i).by_]) ∧ WK w' K { s with a := (wantX s.a s.i).a } rv ∧ Turn K rv rv W w' := by
 obtain ⟨x, o, hu⟩ : ∃ x o, underX s.a = ⟨x, o⟩ := ⟨_, _, rfl⟩
 obtain ⟨b, hbn⟩ : ∃ b, bndX s.a = b := ⟨_, rfl⟩
 have HU := Lib.hid hu
 have HBN := Lib.hid hbn
 have HEQ : Hid (wantX s.a s.i = ⟨s.a, v, false⟩) := Lib.hid (by
  unfold wantX
  rw [if_neg (by omega), if_neg (by rw [ho]; simp)]
  dsimp only
  rw [if_neg (by omega), if_pos hst, hv])
 rw [hu] at ho
 obtain rfl : o = true := ho
 have us2 : (s.a.st == 2) = false := by simp [hst]
 have us4 : (s.a.st == 4) = false := by simp [hst]
 have us5 : (s.a.st == 5) = true := by simp [hst]
 have us6 : (s.a.st == 6) = false := by simp [hst]
 rw [hu] at hv
 have HV := Lib.hid hv
 clear hu hbn hst hv
 have HW := Lib.hid h
 clear h
 go_enter Tryz.func73, Tryz.ntmps73
 go_wp2_with fail
 refine (aunder_at s ⟨x, true⟩ K rv _ HW.out HU.out).mono ?_
 simp only [CmdS.val]
 rintro e w5 ⟨rfl, hb5⟩
 have HW5 := Lib.hid (HW.out.below hb5)
 have HT5 : Hid (Turn K rv rv W w5) := Lib.hid (Turn.of_below hb5)
 clear hb5
 go_upto_region 2 with (fail)
 refine wp_name fun W6 hW => ?_
 obtain ⟨C, hB⟩ : ∃ B, B = w5.heap.size := ⟨_, rfl⟩
 have hbel : Below w5.heap.size w5 W6 := by rw [hW.out]; exact belowBy
 have hlC : C < W6.heap.size := by rw [hW.out, hB]; simp
 have c0 : W6.cell? ⟨C, 0, none⟩ = some (.int .i64 x.id) := by rw [hW.out, hB]; go_simp
 have c1 : W6.cell? ⟨C, 1, none⟩ = some (.int .i64 x.kind) := by rw [hW.out, hB]; go_simp
 have c2 : W6.cell? ⟨C, 2, none⟩ = some (.int .i64 x.target) := by rw [hW.out, hB]; go_simp
 have c3 : W6.cell? ⟨C, 3, none⟩ = some (.int .i64 x.speed) := by rw [hW.out, hB]; go_simp
 have c4 : W6.cell? ⟨C, 4, none⟩ = some (.int .i64 x.mode) := by rw [hW.out, hB]; go_simp
 have c5 : W6.cell? ⟨C, 5, none⟩ = some (.int .i64 x.num) := by rw [hW.out, hB]; go_simp
 have c6 : W6.cell? ⟨C, 6, none⟩ = some (.int .i64 x.den) := by rw [hW.out, hB]; go_simp
 have hKC : K < C := by have := HW5.out.lt; omega
 obtain ⟨sv, nv, wv, cv, hp⟩ := HW5.out.below hbel
 have HP6 := Lib.hid hp
 have HT6 := Lib.hid (HT5.out.trans (Turn.of_below hbel))
 obtain ⟨L, hL⟩ := axL_some s.a sv nv wv
 have HAL := Lib.hid hL
 have HRG := Lib.hid (hp.range hL)
 have lK6 := hp.lt
 (try rw [← hB])
 (try simp only [Act.put])
 clear hW hB hbel hp hL HW5 HT5
 go_wp2_with (refine wpList_load_mid rfl 35 _ rfl K 0 rfl L _ HRG.out Tryz.underlying35 rfl HAL.out.size ?_)
 refine (abounds_L s.a sv nv wv L b W6 HAL.out HBN.out).mono ?_
 rintro e w7 ⟨rfl, hb7⟩
 have HB7 := Lib.hid hb7
 clear hb7 lK6
 go_upto_region 3 with (fail)
 refine wp_name fun W8 hW => ?_
 obtain ⟨Y, hB⟩ : ∃ B, B = w7.heap.size := ⟨_, rfl⟩
 have hbel : Below w7.heap.size w7 W8 := by rw [hW.out]; exact belowBy
 have lY : Y < W8.heap.size := by rw [hW.out, hB]; simp
 have y0 : W8.cell? ⟨Y, 0, none⟩ = some (.int .i64 b.v) := by rw [hW.out, hB]; go_simp
 have y1 : W8.cell? ⟨Y, 1, none⟩ = some (.int .i64 b.a) := by rw [hW.out, hB]; go_simp
 have y2 : W8.cell? ⟨Y, 2, none⟩ = some (.int .i64 b.d) := by rw [hW.out, hB]; go_simp
 have y3 : W8.cell? ⟨Y, 3, none⟩ = some (.int .i64 b.lo) := by rw [hW.out, hB]; go_simp
 have y4 : W8.cell? ⟨Y, 4, none⟩ = some (.int .i64 b.hi) := by rw [hW.out, hB]; go_simp
 have hba : Below W6.heap.size W6 W8 := HB7.out.trans (hbel.mono HB7.out.size)
 have x0 := (hba.cell (p := ⟨C, 0, none⟩) hlC).trans c0
 have x1 := (hba.cell (p := ⟨C, 1, none⟩) hlC).trans c1
 have x2 := (hba.cell (p := ⟨C, 2, none⟩) hlC).trans c2
 have x3 := (hba.cell (p := ⟨C, 3, none⟩) hlC).trans c3
 have x4 := (hba.cell (p := ⟨C, 4, none⟩) hlC).trans c4
 have x5 := (hba.cell (p := ⟨C, 5, none⟩) hlC).trans c5
 have x6 := (hba.cell (p := ⟨C, 6, none⟩) hlC).trans c6
 have lC := Nat.lt_of_lt_of_le hlC hba.size
 have HP8 := Lib.hid (HP6.out.below hba)
 have HT8 := Lib.hid (HT6.out.trans (Turn.of_below hba))
 have hp8 := HP8.out
 (try rw [← hB])
 (try simp only [Act.put])
 clear hW hB hbel hba hlC c0 c1 c2 c3 c4 c5 c6 HP6 HT6 HB7 HRG HAL
 have c_st := hp8.cell 0 _ rfl
 have lK := hp8.lt
 have fK := hp8.froz
 clear hp8
 go_wp2_with (first | (go_at_call 97; refine (ascaled_at s x.speed v K rv _ ⟨_, _, _, _, HP8.out⟩ HV.out).mono ?_; rintro e w' ⟨rfl, rfl⟩))
 go_ret2
 rw [HEQ.out]
 exact ⟨rfl, ⟨_, _, _, _, HP8.out⟩, HT8.out⟩

set_option maxRecDepth 100000 in
theorem awant_0 (s : WS) (K : Nat) (rv : Value) (W : World) (h : WK W K s rv) (hst : s.a.st = 4) (ho : (underX s.a).ok = true) (hk : (underX s.a).x.kind ≠ 1) :
  Calls Tryz.prog 73 #[.pointer (some ⟨K, 0, none⟩)] W fun z w' => z = .returned (.tuple #[.int .i64 (wantX s.a s.i).v, .bool (wantX s.a s.i).by_]) ∧ WK w' K { s with a := (wantX s.a s.i).a } rv ∧ Turn K rv rv W w' := by
 obtain ⟨x, o, hu⟩ : ∃ x o, underX s.a = ⟨x, o⟩ := ⟨_, _, rfl⟩
 obtain ⟨b, hbn⟩ : ∃ b, bndX s.a = b := ⟨_, rfl⟩
 have HU := Lib.hid hu
 have HBN := Lib.hid hbn
 have HEQ : Hid (wantX s.a s.i = ⟨s.a, 0, false⟩) := Lib.hid (by
  unfold wantX
  rw [if_neg (by omega), if_neg (by rw [ho]; simp)]
  dsimp only
  rw [if_neg (fun hh => hk hh.2), if_neg (by omega), if_neg (by omega)])
 rw [hu] at ho
 obtain rfl : o = true := ho
 have us2 : (s.a.st == 2) = false := by simp [hst]
 have us4 : (s.a.st == 4) = true := by simp [hst]
 have us5 : (s.a.st == 5) = false := by simp [hst]
 have us6 : (s.a.st == 6) = false := by simp [hst]
 rw [hu] at hk
 have uk : (x.kind == 1) = false := by simpa using hk
 clear hu hbn hst hk
 have HW := Lib.hid h
 clear h
 go_enter Tryz.func73, Tryz.ntmps73
 go_wp2_with fail
 refine (aunder_at s ⟨x, true⟩ K rv _ HW.out HU.out).mono ?_
 simp only [CmdS.val]
 rintro e w5 ⟨rfl, hb5⟩
 have HW5 := Lib.hid (HW.out.below hb5)
 have HT5 : Hid (Turn K rv rv W w5) := Lib.hid (Turn.of_below hb5)
 clear hb5
 go_upto_region 2 with (fail)
 refine wp_name fun W6 hW => ?_
 obtain ⟨C, hB⟩ : ∃ B, B = w5.heap.size := ⟨_, rfl⟩
 have hbel : Below w5.heap.size w5 W6 := by rw [hW.out]; exact belowBy
 have hlC : C < W6.heap.size := by rw [hW.out, hB]; simp
 have c0 : W6.cell? ⟨C, 0, none⟩ = some (.int .i64 x.id) := by rw [hW.out, hB]; go_simp
 have c1 : W6.cell? ⟨C, 1, none⟩ = some (.int .i64 x.kind) := by rw [hW.out, hB]; go_simp
 have c2 : W6.cell? ⟨C, 2, none⟩ = some (.int .i64 x.target) := by rw [hW.out, hB]; go_simp
 have c3 : W6.cell? ⟨C, 3, none⟩ = some (.int .i64 x.speed) := by rw [hW.out, hB]; go_simp
 have c4 : W6.cell? ⟨C, 4, none⟩ = some (.int .i64 x.mode) := by rw [hW.out, hB]; go_simp
 have c5 : W6.cell? ⟨C, 5, none⟩ = some (.int .i64 x.num) := by rw [hW.out, hB]; go_simp
 have c6 : W6.cell? ⟨C, 6, none⟩ = some (.int .i64 x.den) := by rw [hW.out, hB]; go_simp
 have hKC : K < C := by have := HW5.out.lt; omega
 obtain ⟨sv, nv, wv, cv, hp⟩ := HW5.out.below hbel
 have HP6 := Lib.hid hp
 have HT6 := Lib.hid (HT5.out.trans (Turn.of_below hbel))
 obtain ⟨L, hL⟩ := axL_some s.a sv nv wv
 have HAL := Lib.hid hL
 have HRG := Lib.hid (hp.range hL)
 have lK6 := hp.lt
 (try rw [← hB])
 (try simp only [Act.put])
 clear hW hB hbel hp hL HW5 HT5
 go_wp2_with (refine wpList_load_mid rfl 35 _ rfl K 0 rfl L _ HRG.out Tryz.underlying35 rfl HAL.out.size ?_)
 refine (abounds_L s.a sv nv wv L b W6 HAL.out HBN.out).mono ?_
 rintro e w7 ⟨rfl, hb7⟩
 have HB7 := Lib.hid hb7
 clear hb7 lK6
 go_upto_region 3 with (fail)
 refine wp_name fun W8 hW => ?_
 obtain ⟨Y, hB⟩ : ∃ B, B = w7.heap.size := ⟨_, rfl⟩
 have hbel : Below w7.heap.size w7 W8 := by rw [hW.out]; exact belowBy
 have lY : Y < W8.heap.size := by rw [hW.out, hB]; simp
 have y0 : W8.cell? ⟨Y, 0, none⟩ = some (.int .i64 b.v) := by rw [hW.out, hB]; go_simp
 have y1 : W8.cell? ⟨Y, 1, none⟩ = some (.int .i64 b.a) := by rw [hW.out, hB]; go_simp
 have y2 : W8.cell? ⟨Y, 2, none⟩ = some (.int .i64 b.d) := by rw [hW.out, hB]; go_simp
 have y3 : W8.cell? ⟨Y, 3, none⟩ = some (.int .i64 b.lo) := by rw [hW.out, hB]; go_simp
 have y4 : W8.cell? ⟨Y, 4, none⟩ = some (.int .i64 b.hi) := by rw [hW.out, hB]; go_simp
 have hba : Below W6.heap.size W6 W8 := HB7.out.trans (hbel.mono HB7.out.size)
 have x0 := (hba.cell (p := ⟨C, 0, none⟩) hlC).trans c0
 have x1 := (hba.cell (p := ⟨C, 1, none⟩) hlC).trans c1
 have x2 := (hba.cell (p := ⟨C, 2, none⟩) hlC).trans c2
 have x3 := (hba.cell (p := ⟨C, 3, none⟩) hlC).trans c3
 have x4 := (hba.cell (p := ⟨C, 4, none⟩) hlC).trans c4
 have x5 := (hba.cell (p := ⟨C, 5, none⟩) hlC).trans c5
 have x6 := (hba.cell (p := ⟨C, 6, none⟩) hlC).trans c6
 have lC := Nat.lt_of_lt_of_le hlC hba.size
 have HP8 := Lib.hid (HP6.out.below hba)
 have HT8 := Lib.hid (HT6.out.trans (Turn.of_below hba))
 have hp8 := HP8.out
 (try rw [← hB])
 (try simp only [Act.put])
 clear hW hB hbel hba hlC c0 c1 c2 c3 c4 c5 c6 HP6 HT6 HB7 HRG HAL
 have c_st := hp8.cell 0 _ rfl
 have lK := hp8.lt
 have fK := hp8.froz
 clear hp8
 go_wp2
 go_ret2
 rw [HEQ.out]
 exact ⟨rfl, ⟨_, _, _, _, HP8.out⟩, HT8.out⟩

set_option maxRecDepth 100000 in
theorem awant_z (s : WS) (K : Nat) (rv : Value) (W : World) (h : WK W K s rv) (hst : s.a.st ≠ 2 ∧ s.a.st ≠ 4 ∧ s.a.st ≠ 5 ∧ s.a.st ≠ 6) (ho : (underX s.a).ok = true) :
  Calls Tryz.prog 73 #[.pointer (some ⟨K, 0, none⟩)] W fun z w' => z = .returned (.tuple #[.int .i64 (wantX s.a s.i).v, .bool (wantX s.a s.i).by_]) ∧ WK w' K { s with a := (wantX s.a s.i).a } rv ∧ Turn K rv rv W w' := by
 obtain ⟨x, o, hu⟩ : ∃ x o, underX s.a = ⟨x, o⟩ := ⟨_, _, rfl⟩
 obtain ⟨b, hbn⟩ : ∃ b, bndX s.a = b := ⟨_, rfl⟩
 have HU := Lib.hid hu
 have HBN := Lib.hid hbn
 have HEQ : Hid (wantX s.a s.i = ⟨s.a, 0, false⟩) := Lib.hid (by
  unfold wantX
  rw [if_neg hst.1, if_neg (by rw [ho]; simp)]
  dsimp only
  rw [if_neg (fun hh => hst.2.1 hh.1), if_neg hst.2.2.1, if_neg hst.2.2.2])
 rw [hu] at ho
 obtain rfl : o = true := ho
 have us2 : (s.a.st == 2) = false := by simp [hst]
 have us4 : (s.a.st == 4) = false := by simp [hst]
 have us5 : (s.a.st == 5) = false := by simp [hst]
 have us6 : (s.a.st == 6) = false := by simp [hst]
 clear hu hbn hst
 have HW := Lib.hid h
 clear h
 go_enter Tryz.func73, Tryz.ntmps73
 go_wp2_with fail
 refine (aunder_at s ⟨x, true⟩ K rv _ HW.out HU.out).mono ?_
 simp only [CmdS.val]
 rintro e w5 ⟨rfl, hb5⟩
 have HW5 := Lib.hid (HW.out.below hb5)
 have HT5 : Hid (Turn K rv rv W w5) := Lib.hid (Turn.of_below hb5)
 clear hb5
 go_upto_region 2 with (fail)
 refine wp_name fun W6 hW => ?_
 obtain ⟨C, hB⟩ : ∃ B, B = w5.heap.size := ⟨_, rfl⟩
 have hbel : Below w5.heap.size w5 W6 := by rw [hW.out]; exact belowBy
 have hlC : C < W6.heap.size := by rw [hW.out, hB]; simp
 have c0 : W6.cell? ⟨C, 0, none⟩ = some (.int .i64 x.id) := by rw [hW.out, hB]; go_simp
 have c1 : W6.cell? ⟨C, 1, none⟩ = some (.int .i64 x.kind) := by rw [hW.out, hB]; go_simp
 have c2 : W6.cell? ⟨C, 2, none⟩ = some (.int .i64 x.target) := by rw [hW.out, hB]; go_simp
 have c3 : W6.cell? ⟨C, 3, none⟩ = some (.int .i64 x.speed) := by rw [hW.out, hB]; go_simp
 have c4 : W6.cell? ⟨C, 4, none⟩ = some (.int .i64 x.mode) := by rw [hW.out, hB]; go_simp
 have c5 : W6.cell? ⟨C, 5, none⟩ = some (.int .i64 x.num) := by rw [hW.out, hB]; go_simp
 have c6 : W6.cell? ⟨C, 6, none⟩ = some (.int .i64 x.den) := by rw [hW.out, hB]; go_simp
 have hKC : K < C := by have := HW5.out.lt; omega
 obtain ⟨sv, nv, wv, cv, hp⟩ := HW5.out.below hbel
 have HP6 := Lib.hid hp
 have HT6 := Lib.hid (HT5.out.trans (Turn.of_below hbel))
 obtain ⟨L, hL⟩ := axL_some s.a sv nv wv
 have HAL := Lib.hid hL
 have HRG := Lib.hid (hp.range hL)
 have lK6 := hp.lt
 (try rw [← hB])
 (try simp only [Act.put])
 clear hW hB hbel hp hL HW5 HT5
 go_wp2_with (refine wpList_load_mid rfl 35 _ rfl K 0 rfl L _ HRG.out Tryz.underlying35 rfl HAL.out.size ?_)
 refine (abounds_L s.a sv nv wv L b W6 HAL.out HBN.out).mono ?_
 rintro e w7 ⟨rfl, hb7⟩
 have HB7 := Lib.hid hb7
 clear hb7 lK6
 go_upto_region 3 with (fail)
 refine wp_name fun W8 hW => ?_
 obtain ⟨Y, hB⟩ : ∃ B, B = w7.heap.size := ⟨_, rfl⟩
 have hbel : Below w7.heap.size w7 W8 := by rw [hW.out]; exact belowBy
 have lY : Y < W8.heap.size := by rw [hW.out, hB]; simp
 have y0 : W8.cell? ⟨Y, 0, none⟩ = some (.int .i64 b.v) := by rw [hW.out, hB]; go_simp
 have y1 : W8.cell? ⟨Y, 1, none⟩ = some (.int .i64 b.a) := by rw [hW.out, hB]; go_simp
 have y2 : W8.cell? ⟨Y, 2, none⟩ = some (.int .i64 b.d) := by rw [hW.out, hB]; go_simp
 have y3 : W8.cell? ⟨Y, 3, none⟩ = some (.int .i64 b.lo) := by rw [hW.out, hB]; go_simp
 have y4 : W8.cell? ⟨Y, 4, none⟩ = some (.int .i64 b.hi) := by rw [hW.out, hB]; go_simp
 have hba : Below W6.heap.size W6 W8 := HB7.out.trans (hbel.mono HB7.out.size)
 have x0 := (hba.cell (p := ⟨C, 0, none⟩) hlC).trans c0
 have x1 := (hba.cell (p := ⟨C, 1, none⟩) hlC).trans c1
 have x2 := (hba.cell (p := ⟨C, 2, none⟩) hlC).trans c2
 have x3 := (hba.cell (p := ⟨C, 3, none⟩) hlC).trans c3
 have x4 := (hba.cell (p := ⟨C, 4, none⟩) hlC).trans c4
 have x5 := (hba.cell (p := ⟨C, 5, none⟩) hlC).trans c5
 have x6 := (hba.cell (p := ⟨C, 6, none⟩) hlC).trans c6
 have lC := Nat.lt_of_lt_of_le hlC hba.size
 have HP8 := Lib.hid (HP6.out.below hba)
 have HT8 := Lib.hid (HT6.out.trans (Turn.of_below hba))
 have hp8 := HP8.out
 (try rw [← hB])
 (try simp only [Act.put])
 clear hW hB hbel hba hlC c0 c1 c2 c3 c4 c5 c6 HP6 HT6 HB7 HRG HAL
 have c_st := hp8.cell 0 _ rfl
 have lK := hp8.lt
 have fK := hp8.froz
 clear hp8
 go_wp2
 go_ret2
 rw [HEQ.out]
 exact ⟨rfl, ⟨_, _, _, _, HP8.out⟩, HT8.out⟩

set_option maxRecDepth 100000 in
theorem awant_4b (s : WS) (K : Nat) (rv : Value) (W : World) (h : WK W K s rv) (hst : s.a.st = 4) (ho : (underX s.a).ok = true) (hk : (underX s.a).x.kind = 1) (v : Int) (hv : scaledX s.a (underX s.a).x.speed = v) (n : CmdS) (u : Int) (hbl : blendX s.a (underX s.a).x = ⟨u, n, false⟩) :
  Calls Tryz.prog 73 #[.pointer (some ⟨K, 0, none⟩)] W fun z w' => z = .returned (.tuple #[.int .i64 (wantX s.a s.i).v, .bool (wantX s.a s.i).by_]) ∧ WK w' K { s with a := (wantX s.a s.i).a } rv ∧ Turn K rv rv W w' := by
 obtain ⟨x, o, hu⟩ : ∃ x o, underX s.a = ⟨x, o⟩ := ⟨_, _, rfl⟩
 obtain ⟨b, hbn⟩ : ∃ b, bndX s.a = b := ⟨_, rfl⟩
 have HU := Lib.hid hu
 have HBN := Lib.hid hbn
 have HEQ : Hid (wantX s.a s.i = ⟨s.a, toG (bndX s.a) s.a.g (underX s.a).x.target v, false⟩) := Lib.hid (by
  unfold wantX
  rw [if_neg (by omega), if_neg (by rw [ho]; simp)]
  dsimp only
  rw [if_pos ⟨hst, hk⟩, hbl, if_neg (by simp), hv])
 rw [hu] at ho
 obtain rfl : o = true := ho
 have us2 : (s.a.st == 2) = false := by simp [hst]
 have us4 : (s.a.st == 4) = true := by simp [hst]
 have us5 : (s.a.st == 5) = false := by simp [hst]
 have us6 : (s.a.st == 6) = false := by simp [hst]
 rw [hu] at hk hv hbl
 have uk : (x.kind == 1) = true := by simpa using hk
 have HV := Lib.hid hv
 have HBL := Lib.hid hbl
 clear hu hbn hst hk hv hbl
 have HW := Lib.hid h
 clear h
 go_enter Tryz.func73, Tryz.ntmps73
 go_wp2_with fail
 refine (aunder_at s ⟨x, true⟩ K rv _ HW.out HU.out).mono ?_
 simp only [CmdS.val]
 rintro e w5 ⟨rfl, hb5⟩
 have HW5 := Lib.hid (HW.out.below hb5)
 have HT5 : Hid (Turn K rv rv W w5) := Lib.hid (Turn.of_below hb5)
 clear hb5
 go_upto_region 2 with (fail)
 refine wp_name fun W6 hW => ?_
 obtain ⟨C, hB⟩ : ∃ B, B = w5.heap.size := ⟨_, rfl⟩
 have hbel : Below w5.heap.size w5 W6 := by rw [hW.out]; exact belowBy
 have hlC : C < W6.heap.size := by rw [hW.out, hB]; simp
 have c0 : W6.cell? ⟨C, 0, none⟩ = some (.int .i64 x.id) := by rw [hW.out, hB]; go_simp
 have c1 : W6.cell? ⟨C, 1, none⟩ = some (.int .i64 x.kind) := by rw [hW.out, hB]; go_simp
 have c2 : W6.cell? ⟨C, 2, none⟩ = some (.int .i64 x.target) := by rw [hW.out, hB]; go_simp
 have c3 : W6.cell? ⟨C, 3, none⟩ = some (.int .i64 x.speed) := by rw [hW.out, hB]; go_simp
 have c4 : W6.cell? ⟨C, 4, none⟩ = some (.int .i64 x.mode) := by rw [hW.out, hB]; go_simp
 have c5 : W6.cell? ⟨C, 5, none⟩ = some (.int .i64 x.num) := by rw [hW.out, hB]; go_simp
 have c6 : W6.cell? ⟨C, 6, none⟩ = some (.int .i64 x.den) := by rw [hW.out, hB]; go_simp
 have hKC : K < C := by have := HW5.out.lt; omega
 obtain ⟨sv, nv, wv, cv, hp⟩ := HW5.out.below hbel
 have HP6 := Lib.hid hp
 have HT6 := Lib.hid (HT5.out.trans (Turn.of_below hbel))
 obtain ⟨L, hL⟩ := axL_some s.a sv nv wv
 have HAL := Lib.hid hL
 have HRG := Lib.hid (hp.range hL)
 have lK6 := hp.lt
 (try rw [← hB])
 (try simp only [Act.put])
 clear hW hB hbel hp hL HW5 HT5
 go_wp2_with (refine wpList_load_mid rfl 35 _ rfl K 0 rfl L _ HRG.out Tryz.underlying35 rfl HAL.out.size ?_)
 refine (abounds_L s.a sv nv wv L b W6 HAL.out HBN.out).mono ?_
 rintro e w7 ⟨rfl, hb7⟩
 have HB7 := Lib.hid hb7
 clear hb7 lK6
 go_upto_region 3 with (fail)
 refine wp_name fun W8 hW => ?_
 obtain ⟨Y, hB⟩ : ∃ B, B = w7.heap.size := ⟨_, rfl⟩
 have hbel : Below w7.heap.size w7 W8 := by rw [hW.out]; exact belowBy
 have lY : Y < W8.heap.size := by rw [hW.out, hB]; simp
 have y0 : W8.cell? ⟨Y, 0, none⟩ = some (.int .i64 b.v) := by rw [hW.out, hB]; go_simp
 have y1 : W8.cell? ⟨Y, 1, none⟩ = some (.int .i64 b.a) := by rw [hW.out, hB]; go_simp
 have y2 : W8.cell? ⟨Y, 2, none⟩ = some (.int .i64 b.d) := by rw [hW.out, hB]; go_simp
 have y3 : W8.cell? ⟨Y, 3, none⟩ = some (.int .i64 b.lo) := by rw [hW.out, hB]; go_simp
 have y4 : W8.cell? ⟨Y, 4, none⟩ = some (.int .i64 b.hi) := by rw [hW.out, hB]; go_simp
 have hba : Below W6.heap.size W6 W8 := HB7.out.trans (hbel.mono HB7.out.size)
 have x0 := (hba.cell (p := ⟨C, 0, none⟩) hlC).trans c0
 have x1 := (hba.cell (p := ⟨C, 1, none⟩) hlC).trans c1
 have x2 := (hba.cell (p := ⟨C, 2, none⟩) hlC).trans c2
 have x3 := (hba.cell (p := ⟨C, 3, none⟩) hlC).trans c3
 have x4 := (hba.cell (p := ⟨C, 4, none⟩) hlC).trans c4
 have x5 := (hba.cell (p := ⟨C, 5, none⟩) hlC).trans c5
 have x6 := (hba.cell (p := ⟨C, 6, none⟩) hlC).trans c6
 have lC := Nat.lt_of_lt_of_le hlC hba.size
 have HP8 := Lib.hid (HP6.out.below hba)
 have HT8 := Lib.hid (HT6.out.trans (Turn.of_below hba))
 have hp8 := HP8.out
 (try rw [← hB])
 (try simp only [Act.put])
 clear hW hB hbel hba hlC c0 c1 c2 c3 c4 c5 c6 HP6 HT6 HB7 HRG HAL
 have c_st := hp8.cell 0 _ rfl
 have lK := hp8.lt
 have fK := hp8.froz
 clear hp8
 go_wp2_with (first | (go_at_call 97; refine (ascaled_at s x.speed v K rv _ ⟨_, _, _, _, HP8.out⟩ HV.out).mono ?_; rintro e w' ⟨rfl, rfl⟩))
 refine (ablend_at s x K rv _ ⟨_, _, _, _, HP8.out⟩).mono ?_
 rw [HBL.out]
 simp only [CmdS.val]
 rintro e w9 ⟨rfl, hb9⟩
 have HB9 := Lib.hid hb9
 clear hb9 c_st lK fK
 go_upto_region 12 with (fail)
 refine wp_name fun W9 hW => ?_
 obtain ⟨X, hB⟩ : ∃ B, B = w9.heap.size := ⟨_, rfl⟩
 have hbel : Below w9.heap.size w9 W9 := by rw [hW.out]; exact belowBy
 have lX : X < W9.heap.size := by rw [hW.out, hB]; simp
 have n2 : W9.cell? ⟨X, 2, none⟩ = some (.int .i64 n.target) := by rw [hW.out, hB]; go_simp
 have hba : Below W8.heap.size W8 W9 := HB9.out.trans (hbel.mono HB9.out.size)
 have y0 := (hba.cell (p := ⟨Y, 0, none⟩) lY).trans y0
 have y1 := (hba.cell (p := ⟨Y, 1, none⟩) lY).trans y1
 have y2 := (hba.cell (p := ⟨Y, 2, none⟩) lY).trans y2
 have y3 := (hba.cell (p := ⟨Y, 3, none⟩) lY).trans y3
 have y4 := (hba.cell (p := ⟨Y, 4, none⟩) lY).trans y4
 have x2 := (hba.cell (p := ⟨C, 2, none⟩) lC).trans x2
 have lC := Nat.lt_of_lt_of_le lC hba.size
 have lY := Nat.lt_of_lt_of_le lY hba.size
 have HP9 := Lib.hid (HP8.out.below hba)
 have HT9 := Lib.hid (HT8.out.trans (Turn.of_below hba))
 have hp9 := HP9.out
 (try rw [← hB])
 (try simp only [Act.put])
 clear hW hB hbel hba HB9 HP8 HT8
 have c_gp := hp9.cell 10 _ rfl
 have c_gv := hp9.cell 11 _ rfl
 have lK := hp9.lt
 have fK := hp9.froz
 have HOK : Hid (okB ⟨b.v, b.a, b.d, b.lo, b.hi⟩ ⟨s.a.g.p, s.a.g.v⟩ = true) := Lib.hid (by have := hp9.inv.okb; rw [HBN.out] at this; exact this)
 clear hp9
 go_wp2_with fail
 refine wp_region_ext (by kernel_rfl) (by kernel_rfl) ?_
 repeat (go_big_quiet_step (first | (go_at_call 100; exact ext_call (gto_yes b.v b.a b.d b.lo b.hi s.a.g.p s.a.g.v x.target v _ HOK.out))))
 refine wpQuiet_nil ?_
 intro w10 hb10
 replace hb10 := ext_below hb10
 have HP10 := Lib.hid (HP9.out.below hb10)
 have HT10 := Lib.hid (HT9.out.trans (Turn.of_below hb10))
 clear hb10
 go_wp2
 go_ret2
 rw [HEQ.out, HBN.out, HU.out]
 exact ⟨rfl, ⟨_, _, _, _, HP10.out⟩, HT10.out⟩

set_option maxRecDepth 100000 in
theorem awant_4a (s : WS) (K : Nat) (rv : Value) (W : World) (h : WK W K s rv) (hst : s.a.st = 4) (ho : (underX s.a).ok = true) (hk : (underX s.a).x.kind = 1) (v : Int) (hv : scaledX s.a (underX s.a).x.speed = v) (n : CmdS) (u : Int) (hbl : blendX s.a (underX s.a).x = ⟨u, n, true⟩) :
  Calls Tryz.prog 73 #[.pointer (some ⟨K, 0, none⟩)] W fun z w' => z = .returned (.tuple #[.int .i64 (wantX s.a s.i).v, .bool (wantX s.a s.i).by_]) ∧ WK w' K { s with a := (wantX s.a s.i).a } rv ∧ Turn K rv rv W w' := by
 obtain ⟨x, o, hu⟩ : ∃ x o, underX s.a = ⟨x, o⟩ := ⟨_, _, rfl⟩
 obtain ⟨b, hbn⟩ : ∃ b, bndX s.a = b := ⟨_, rfl⟩
 have HU := Lib.hid hu
 have HBN := Lib.hid hbn
 have HEQ : Hid (wantX s.a s.i = ⟨s.a, byG (bndX s.a) s.a.g (underX s.a).x.target (min u v) n.target v, true⟩) := Lib.hid (by
  unfold wantX
  rw [if_neg (by omega), if_neg (by rw [ho]; simp)]
  dsimp only
  rw [if_pos ⟨hst, hk⟩, hbl, if_pos rfl, hv])
 rw [hu] at ho
 obtain rfl : o = true := ho
 have us2 : (s.a.st == 2) = false := by simp [hst]
 have us4 : (s.a.st == 4) = true := by simp [hst]
 have us5 : (s.a.st == 5) = false := by simp [hst]
 have us6 : (s.a.st == 6) = false := by simp [hst]
 rw [hu] at hk hv hbl
 have uk : (x.kind == 1) = true := by simpa using hk
 have HV := Lib.hid hv
 have HBL := Lib.hid hbl
 clear hu hbn hst hk hv hbl
 have HW := Lib.hid h
 clear h
 go_enter Tryz.func73, Tryz.ntmps73
 go_wp2_with fail
 refine (aunder_at s ⟨x, true⟩ K rv _ HW.out HU.out).mono ?_
 simp only [CmdS.val]
 rintro e w5 ⟨rfl, hb5⟩
 have HW5 := Lib.hid (HW.out.below hb5)
 have HT5 : Hid (Turn K rv rv W w5) := Lib.hid (Turn.of_below hb5)
 clear hb5
 go_upto_region 2 with (fail)
 refine wp_name fun W6 hW => ?_
 obtain ⟨C, hB⟩ : ∃ B, B = w5.heap.size := ⟨_, rfl⟩
 have hbel : Below w5.heap.size w5 W6 := by rw [hW.out]; exact belowBy
 have hlC : C < W6.heap.size := by rw [hW.out, hB]; simp
 have c0 : W6.cell? ⟨C, 0, none⟩ = some (.int .i64 x.id) := by rw [hW.out, hB]; go_simp
 have c1 : W6.cell? ⟨C, 1, none⟩ = some (.int .i64 x.kind) := by rw [hW.out, hB]; go_simp
 have c2 : W6.cell? ⟨C, 2, none⟩ = some (.int .i64 x.target) := by rw [hW.out, hB]; go_simp
 have c3 : W6.cell? ⟨C, 3, none⟩ = some (.int .i64 x.speed) := by rw [hW.out, hB]; go_simp
 have c4 : W6.cell? ⟨C, 4, none⟩ = some (.int .i64 x.mode) := by rw [hW.out, hB]; go_simp
 have c5 : W6.cell? ⟨C, 5, none⟩ = some (.int .i64 x.num) := by rw [hW.out, hB]; go_simp
 have c6 : W6.cell? ⟨C, 6, none⟩ = some (.int .i64 x.den) := by rw [hW.out, hB]; go_simp
 have hKC : K < C := by have := HW5.out.lt; omega
 obtain ⟨sv, nv, wv, cv, hp⟩ := HW5.out.below hbel
 have HP6 := Lib.hid hp
 have HT6 := Lib.hid (HT5.out.trans (Turn.of_below hbel))
 obtain ⟨L, hL⟩ := axL_some s.a sv nv wv
 have HAL := Lib.hid hL
 have HRG := Lib.hid (hp.range hL)
 have lK6 := hp.lt
 (try rw [← hB])
 (try simp only [Act.put])
 clear hW hB hbel hp hL HW5 HT5
 go_wp2_with (refine wpList_load_mid rfl 35 _ rfl K 0 rfl L _ HRG.out Tryz.underlying35 rfl HAL.out.size ?_)
 refine (abounds_L s.a sv nv wv L b W6 HAL.out HBN.out).mono ?_
 rintro e w7 ⟨rfl, hb7⟩
 have HB7 := Lib.hid hb7
 clear hb7 lK6
 go_upto_region 3 with (fail)
 refine wp_name fun W8 hW => ?_
 obtain ⟨Y, hB⟩ : ∃ B, B = w7.heap.size := ⟨_, rfl⟩
 have hbel : Below w7.heap.size w7 W8 := by rw [hW.out]; exact belowBy
 have lY : Y < W8.heap.size := by rw [hW.out, hB]; simp
 have y0 : W8.cell? ⟨Y, 0, none⟩ = some (.int .i64 b.v) := by rw [hW.out, hB]; go_simp
 have y1 : W8.cell? ⟨Y, 1, none⟩ = some (.int .i64 b.a) := by rw [hW.out, hB]; go_simp
 have y2 : W8.cell? ⟨Y, 2, none⟩ = some (.int .i64 b.d) := by rw [hW.out, hB]; go_simp
 have y3 : W8.cell? ⟨Y, 3, none⟩ = some (.int .i64 b.lo) := by rw [hW.out, hB]; go_simp
 have y4 : W8.cell? ⟨Y, 4, none⟩ = some (.int .i64 b.hi) := by rw [hW.out, hB]; go_simp
 have hba : Below W6.heap.size W6 W8 := HB7.out.trans (hbel.mono HB7.out.size)
 have x0 := (hba.cell (p := ⟨C, 0, none⟩) hlC).trans c0
 have x1 := (hba.cell (p := ⟨C, 1, none⟩) hlC).trans c1
 have x2 := (hba.cell (p := ⟨C, 2, none⟩) hlC).trans c2
 have x3 := (hba.cell (p := ⟨C, 3, none⟩) hlC).trans c3
 have x4 := (hba.cell (p := ⟨C, 4, none⟩) hlC).trans c4
 have x5 := (hba.cell (p := ⟨C, 5, none⟩) hlC).trans c5
 have x6 := (hba.cell (p := ⟨C, 6, none⟩) hlC).trans c6
 have lC := Nat.lt_of_lt_of_le hlC hba.size
 have HP8 := Lib.hid (HP6.out.below hba)
 have HT8 := Lib.hid (HT6.out.trans (Turn.of_below hba))
 have hp8 := HP8.out
 (try rw [← hB])
 (try simp only [Act.put])
 clear hW hB hbel hba hlC c0 c1 c2 c3 c4 c5 c6 HP6 HT6 HB7 HRG HAL
 have c_st := hp8.cell 0 _ rfl
 have lK := hp8.lt
 have fK := hp8.froz
 clear hp8
 go_wp2_with (first | (go_at_call 97; refine (ascaled_at s x.speed v K rv _ ⟨_, _, _, _, HP8.out⟩ HV.out).mono ?_; rintro e w' ⟨rfl, rfl⟩))
 refine (ablend_at s x K rv _ ⟨_, _, _, _, HP8.out⟩).mono ?_
 rw [HBL.out]
 simp only [CmdS.val]
 rintro e w9 ⟨rfl, hb9⟩
 have HB9 := Lib.hid hb9
 clear hb9 c_st lK fK
 go_upto_region 12 with (fail)
 refine wp_name fun W9 hW => ?_
 obtain ⟨X, hB⟩ : ∃ B, B = w9.heap.size := ⟨_, rfl⟩
 have hbel : Below w9.heap.size w9 W9 := by rw [hW.out]; exact belowBy
 have lX : X < W9.heap.size := by rw [hW.out, hB]; simp
 have n2 : W9.cell? ⟨X, 2, none⟩ = some (.int .i64 n.target) := by rw [hW.out, hB]; go_simp
 have hba : Below W8.heap.size W8 W9 := HB9.out.trans (hbel.mono HB9.out.size)
 have y0 := (hba.cell (p := ⟨Y, 0, none⟩) lY).trans y0
 have y1 := (hba.cell (p := ⟨Y, 1, none⟩) lY).trans y1
 have y2 := (hba.cell (p := ⟨Y, 2, none⟩) lY).trans y2
 have y3 := (hba.cell (p := ⟨Y, 3, none⟩) lY).trans y3
 have y4 := (hba.cell (p := ⟨Y, 4, none⟩) lY).trans y4
 have x2 := (hba.cell (p := ⟨C, 2, none⟩) lC).trans x2
 have lC := Nat.lt_of_lt_of_le lC hba.size
 have lY := Nat.lt_of_lt_of_le lY hba.size
 have HP9 := Lib.hid (HP8.out.below hba)
 have HT9 := Lib.hid (HT8.out.trans (Turn.of_below hba))
 have hp9 := HP9.out
 (try rw [← hB])
 (try simp only [Act.put])
 clear hW hB hbel hba HB9 HP8 HT8
 have c_gp := hp9.cell 10 _ rfl
 have c_gv := hp9.cell 11 _ rfl
 have lK := hp9.lt
 have fK := hp9.froz
 have HOK : Hid (okB ⟨b.v, b.a, b.d, b.lo, b.hi⟩ ⟨s.a.g.p, s.a.g.v⟩ = true) := Lib.hid (by have := hp9.inv.okb; rw [HBN.out] at this; exact this)
 clear hp9
 go_wp2_with fail
 refine wp_region_ext (by kernel_rfl) (by kernel_rfl) ?_
 repeat (go_big_quiet_step (first | (go_at_call 99; exact ext_call (gby_yes b.v b.a b.d b.lo b.hi s.a.g.p s.a.g.v x.target (min u v) n.target v _ HOK.out))))
 refine wpQuiet_nil ?_
 intro w10 hb10
 replace hb10 := ext_below hb10
 have HP10 := Lib.hid (HP9.out.below hb10)
 have HT10 := Lib.hid (HT9.out.trans (Turn.of_below hb10))
 clear hb10
 go_wp2
 go_ret2
 rw [HEQ.out, HBN.out, HU.out]
 exact ⟨rfl, ⟨_, _, _, _, HP10.out⟩, HT10.out⟩

set_option maxRecDepth 100000 in
theorem awant_6 (s : WS) (K : Nat) (rv : Value) (W : World) (h : WK W K s rv) (hst : s.a.st = 6) (ho : (underX s.a).ok = true) (P v : Int) (O q : Bool) (hP : plV s.a.sta s.a.mas s.i.mas (underX s.a).x.num (underX s.a).x.den = P) (hO : plO s.a.sta s.a.mas s.i.mas (underX s.a).x.num (underX s.a).x.den = O) (hv : wantV s.a.g P O = v) (hq : wantO (bndX s.a) s.a.g P O = q) :
  Calls Tryz.prog 73 #[.pointer (some ⟨K, 0, none⟩)] W fun z w' => z = .returned (.tuple #[.int .i64 (wantX s.a s.i).v, .bool (wantX s.a s.i).by_]) ∧ WK w' K { s with a := (wantX s.a s.i).a } rv ∧ Turn K rv rv W w' := by
 obtain ⟨x, o, hu⟩ : ∃ x o, underX s.a = ⟨x, o⟩ := ⟨_, _, rfl⟩
 obtain ⟨b, hbn⟩ : ∃ b, bndX s.a = b := ⟨_, rfl⟩
 have HU := Lib.hid hu
 have HBN := Lib.hid hbn
 have HEQ : Hid (wantX s.a s.i = ⟨{ s.a with ins := q }, v, false⟩) := Lib.hid (by
  unfold wantX
  rw [if_neg (by omega), if_neg (by rw [ho]; simp)]
  dsimp only
  rw [if_neg (by omega), if_neg (by omega), if_pos hst, hP, hO, hv, hq])
 rw [hu] at ho
 obtain rfl : o = true := ho
 have HCW : Hid (CmdW x) := Lib.hid (by obtain ⟨sv, nv, wv, cv, hp⟩ := h; have := under_w hp.inv (by rw [hu]); rw [hu] at this; exact this)
 have us2 : (s.a.st == 2) = false := by simp [hst]
 have us4 : (s.a.st == 4) = false := by simp [hst]
 have us5 : (s.a.st == 5) = false := by simp [hst]
 have us6 : (s.a.st == 6) = true := by simp [hst]
 rw [hu] at hP hO
 rw [hbn] at hq
 have HPP := Lib.hid hP
 have HOO := Lib.hid hO
 have HVV := Lib.hid hv
 have HQQ := Lib.hid hq
 clear hu hbn hst hP hO hv hq
 have HW := Lib.hid h
 clear h
 go_enter Tryz.func73, Tryz.ntmps73
 go_wp2_with fail
 refine (aunder_at s ⟨x, true⟩ K rv _ HW.out HU.out).mono ?_
 simp only [CmdS.val]
 rintro e w5 ⟨rfl, hb5⟩
 have HW5 := Lib.hid (HW.out.below hb5)
 have HT5 : Hid (Turn K rv rv W w5) := Lib.hid (Turn.of_below hb5)
 clear hb5
 go_upto_region 2 with (fail)
 refine wp_name fun W6 hW => ?_
 obtain ⟨C, hB⟩ : ∃ B, B = w5.heap.size := ⟨_, rfl⟩
 have hbel : Below w5.heap.size w5 W6 := by rw [hW.out]; exact belowBy
 have hlC : C < W6.heap.size := by rw [hW.out, hB]; simp
 have c0 : W6.cell? ⟨C, 0, none⟩ = some (.int .i64 x.id) := by rw [hW.out, hB]; go_simp
 have c1 : W6.cell? ⟨C, 1, none⟩ = some (.int .i64 x.kind) := by rw [hW.out, hB]; go_simp
 have c2 : W6.cell? ⟨C, 2, none⟩ = some (.int .i64 x.target) := by rw [hW.out, hB]; go_simp
 have c3 : W6.cell? ⟨C, 3, none⟩ = some (.int .i64 x.speed) := by rw [hW.out, hB]; go_simp
 have c4 : W6.cell? ⟨C, 4, none⟩ = some (.int .i64 x.mode) := by rw [hW.out, hB]; go_simp
 have c5 : W6.cell? ⟨C, 5, none⟩ = some (.int .i64 x.num) := by rw [hW.out, hB]; go_simp
 have c6 : W6.cell? ⟨C, 6, none⟩ = some (.int .i64 x.den) := by rw [hW.out, hB]; go_simp
 have hKC : K < C := by have := HW5.out.lt; omega
 obtain ⟨sv, nv, wv, cv, hp⟩ := HW5.out.below hbel
 have HP6 := Lib.hid hp
 have HT6 := Lib.hid (HT5.out.trans (Turn.of_below hbel))
 obtain ⟨L, hL⟩ := axL_some s.a sv nv wv
 have HAL := Lib.hid hL
 have HRG := Lib.hid (hp.range hL)
 have lK6 := hp.lt
 (try rw [← hB])
 (try simp only [Act.put])
 clear hW hB hbel hp hL HW5 HT5
 go_wp2_with (refine wpList_load_mid rfl 35 _ rfl K 0 rfl L _ HRG.out Tryz.underlying35 rfl HAL.out.size ?_)
 refine (abounds_L s.a sv nv wv L b W6 HAL.out HBN.out).mono ?_
 rintro e w7 ⟨rfl, hb7⟩
 have HB7 := Lib.hid hb7
 clear hb7 lK6
 go_upto_region 3 with (fail)
 refine wp_name fun W8 hW => ?_
 obtain ⟨Y, hB⟩ : ∃ B, B = w7.heap.size := ⟨_, rfl⟩
 have hbel : Below w7.heap.size w7 W8 := by rw [hW.out]; exact belowBy
 have lY : Y < W8.heap.size := by rw [hW.out, hB]; simp
 have y0 : W8.cell? ⟨Y, 0, none⟩ = some (.int .i64 b.v) := by rw [hW.out, hB]; go_simp
 have y1 : W8.cell? ⟨Y, 1, none⟩ = some (.int .i64 b.a) := by rw [hW.out, hB]; go_simp
 have y2 : W8.cell? ⟨Y, 2, none⟩ = some (.int .i64 b.d) := by rw [hW.out, hB]; go_simp
 have y3 : W8.cell? ⟨Y, 3, none⟩ = some (.int .i64 b.lo) := by rw [hW.out, hB]; go_simp
 have y4 : W8.cell? ⟨Y, 4, none⟩ = some (.int .i64 b.hi) := by rw [hW.out, hB]; go_simp
 have hba : Below W6.heap.size W6 W8 := HB7.out.trans (hbel.mono HB7.out.size)
 have x0 := (hba.cell (p := ⟨C, 0, none⟩) hlC).trans c0
 have x1 := (hba.cell (p := ⟨C, 1, none⟩) hlC).trans c1
 have x2 := (hba.cell (p := ⟨C, 2, none⟩) hlC).trans c2
 have x3 := (hba.cell (p := ⟨C, 3, none⟩) hlC).trans c3
 have x4 := (hba.cell (p := ⟨C, 4, none⟩) hlC).trans c4
 have x5 := (hba.cell (p := ⟨C, 5, none⟩) hlC).trans c5
 have x6 := (hba.cell (p := ⟨C, 6, none⟩) hlC).trans c6
 have lC := Nat.lt_of_lt_of_le hlC hba.size
 have HP8 := Lib.hid (HP6.out.below hba)
 have HT8 := Lib.hid (HT6.out.trans (Turn.of_below hba))
 have hp8 := HP8.out
 (try rw [← hB])
 (try simp only [Act.put])
 clear hW hB hbel hba hlC c0 c1 c2 c3 c4 c5 c6 HP6 HT6 HB7 HRG HAL
 have c_st := hp8.cell 0 _ rfl
 have c_gp := hp8.cell 10 _ rfl
 have c_gv := hp8.cell 11 _ rfl
 have c_sta := hp8.cell 22 _ rfl
 have c_mas := hp8.cell 23 _ rfl
 have c_imas := hp8.cell 36 _ rfl
 have lK := hp8.lt
 have fK := hp8.froz
 have HOK : Hid (okB ⟨b.v, b.a, b.d, b.lo, b.hi⟩ ⟨s.a.g.p, s.a.g.v⟩ = true) := Lib.hid (by have := hp8.inv.okb; rw [HBN.out] at this; exact this)
 have HI1 := Lib.hid hp8.inv.sta
 have HI2 := Lib.hid hp8.inv.mas
 have HI3 := Lib.hid hp8.iw.mas
 clear hp8
 go_wp2_with fail
 refine wp_region_ext (by kernel_rfl) (by kernel_rfl) ?_
 repeat (go_big_quiet_step (first | (go_at_call 101; exact ext_call (gwant_at b.v b.a b.d b.lo b.hi s.a.g.p s.a.g.v s.a.sta s.a.mas s.i.mas x.num x.den P O _ HOK.out HI1.out HI2.out HI3.out HCW.out.num HCW.out.den HPP.out HOO.out v q HVV.out HQQ.out))))
 refine wpQuiet_nil ?_
 intro w10 hb10
 replace hb10 := ext_below hb10
 have HP10 := Lib.hid (HP8.out.below hb10)
 have HT10 := Lib.hid (HT8.out.trans (Turn.of_below hb10))
 have hp10 := HP10.out
 clear hb10 c_st c_gp c_gv c_sta c_mas c_imas lK fK
 have c_ins := hp10.cell 25 _ rfl
 have lK := hp10.lt
 have fK := hp10.froz
 clear hp10
 have hf := HP10.out.put0 [(25, .bool q)] { s with a := { s.a with ins := q } } rfl rfl rfl rfl rfl (HP10.out.inv.ins q) rfl
 have HF := Lib.hid hf
 clear hf
 go_wp2
 go_ret2
 rw [HEQ.out]
 exact ⟨rfl, ⟨_, _, _, _, HF.out.1⟩, HT10.out.trans HF.out.2⟩

theorem awanted_at (s : WS) (K : Nat) (rv : Value) (W : World) (h : WK W K s rv) :
  Calls Tryz.prog 73 #[.pointer (some ⟨K, 0, none⟩)] W fun z w' => z = .returned (.tuple #[.int .i64 (wantX s.a s.i).v, .bool (wantX s.a s.i).by_]) ∧ WK w' K { s with a := (wantX s.a s.i).a } rv ∧ Turn K rv rv W w' := by
 by_cases h2 : s.a.st = 2
 ·exact awant_2 s K rv W h h2 _ _ rfl
 ·cases ho : (underX s.a).ok
  ·exact awant_n s K rv W h h2 ho
  ·by_cases h4 : s.a.st = 4
   ·by_cases hk : (underX s.a).x.kind = 1
    ·rcases hbl : blendX s.a (underX s.a).x with ⟨u, n, q⟩
     cases q
     ·exact awant_4b s K rv W h h4 ho hk _ rfl n u hbl
     ·exact awant_4a s K rv W h h4 ho hk _ rfl n u hbl
    ·exact awant_0 s K rv W h h4 ho hk
   ·by_cases h5 : s.a.st = 5
    ·exact awant_5 s K rv W h h5 ho _ rfl
    ·by_cases h6 : s.a.st = 6
     ·exact awant_6 s K rv W h h6 ho _ _ _ _ rfl rfl rfl rfl
     ·exact awant_z s K rv W h ⟨h2, h4, h5, h6⟩ ho

end Go.Proofs.YthhfnageadckkaaGreat
