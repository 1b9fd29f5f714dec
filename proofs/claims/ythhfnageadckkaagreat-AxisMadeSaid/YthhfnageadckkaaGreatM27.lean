/- Merged: Layer 15: what a cycle does first. PRINTED by wip/tool/mkbegins.py Layer 15: the place to which a move goes. -/
import Derived.Test.YthhfnageadckkaaGreatM25
import Derived.Test.YthhfnageadckkaaGreatAxM2
import Derived.Test.YthhfnageadckkaaGreatM21
import Derived.Test.YthhfnageadckkaaGreatM17
set_option linter.unusedVariables false
set_option linter.unusedSimpArgs false
set_option maxHeartbeats 4000000
namespace Go.Proofs.YthhfnageadckkaaGreat
open Go.RowKit
attribute [local go_sem] ite_max ite_min vite_max vite_min ext_cell ext_frozen

set_option maxRecDepth 100000 in
theorem abegins_a (s : WS) (K : Nat) (rv : Value) (W : World) (h : WK W K s rv) (hl : s.rs.length + 5 ≤ 2000) (c : Int) (hc : causeX s.a s.i = c) (st : Int) (hst : s.a.st = st) (pw op reset : Bool) (hpw : s.i.pw = pw) (hop : s.i.op = op) (hrs : s.i.reset = reset) (g1 : c ≠ 0) (g2 : st ≠ 7) :
  Calls Tryz.prog 31 #[.pointer (some ⟨K, 0, none⟩)] W fun x w' => x = .returned (.tuple #[]) ∧ ∃ rv', WK w' K (beginsX s) rv' ∧ Turn K rv rv' W w' := by
 have HW := Lib.hid h
 have HL := Lib.hid hl
 have HC := Lib.hid hc
 have HST := Lib.hid hst
 have HPW := Lib.hid hpw
 have HOP := Lib.hid hop
 have HRS := Lib.hid hrs
 have HE : Hid (beginsX s = if c ≠ 0 ∧ st ≠ 7 then failsX s c
  else if st = 7 then (if (decide (c = 0) && reset && op && stillX s.a) = true then { (happX s 12) with a := { (happX s 12).a with cau := 0 }, fr := true } else s)
  else if pw = false ∧ st ≠ 0 then offX s
  else if (pw && op) = true ∧ st = 0 then onX s
  else s) := Lib.hid (by rw [← hc, ← hst, ← hpw, ← hop, ← hrs]; rfl)
 clear h hl hc hst hpw hop hrs
 have lK := HW.out.lt
 have HEQ : Hid (beginsX s = failsX s c) := Lib.hid (by rw [HE.out, if_pos ⟨g1, g2⟩])
 go_enter Tryz.func31, Tryz.ntmps31
 go_wp2_with fail
 refine (acause_at s K rv _ HW.out).mono ?_
 rw [HC.out]
 rintro e w1 ⟨rfl, hb1⟩
 obtain ⟨sv, nv, wv, cv, hp⟩ := HW.out.below hb1
 have HP1 := Lib.hid hp
 have HT1 : Hid (Turn K rv rv W w1) := Lib.hid (Turn.of_below hb1)
 clear hb1 lK
 have c_st : w1.cell? ⟨K, 0, none⟩ = some (.int .i64 st) := hp.cell 0 _ (by rw [← HST.out]; rfl)
 have c_pw : w1.cell? ⟨K, 26, none⟩ = some (.bool pw) := hp.cell 26 _ (by rw [← HPW.out]; rfl)
 have c_op : w1.cell? ⟨K, 27, none⟩ = some (.bool op) := hp.cell 27 _ (by rw [← HOP.out]; rfl)
 have c_rs : w1.cell? ⟨K, 33, none⟩ = some (.bool reset) := hp.cell 33 _ (by rw [← HRS.out]; rfl)
 have lK := hp.lt
 clear hp
 have u1 : (c != 0) = true := by simp [g1]
 have u2 : (st != 7) = true := by simp [g2]
 clear g1 g2
 go_wp2_with fail
 refine (afails_at s c K rv _ ⟨_, _, _, _, HP1.out⟩ HL.out).mono ?_
 rintro e w8 ⟨rfl, rv8, hw8, ht8⟩
 have HW8 := Lib.hid hw8
 have HT8 := Lib.hid (HT1.out.trans ht8)
 clear hw8 ht8
 go_wp2
 first
  | exact bodyPost_ret (results_none rfl _ _ _) rfl ⟨rfl, rv8, by rw [HEQ.out]; exact HW8.out, HT8.out⟩
  | exact bodyPost_end (results_none rfl _ _ _) rfl ⟨rfl, rv8, by rw [HEQ.out]; exact HW8.out, HT8.out⟩

set_option maxRecDepth 100000 in
theorem abegins_b (s : WS) (K : Nat) (rv : Value) (W : World) (h : WK W K s rv) (hl : s.rs.length + 5 ≤ 2000) (c : Int) (hc : causeX s.a s.i = c) (st : Int) (hst : s.a.st = st) (pw op reset : Bool) (hpw : s.i.pw = pw) (hop : s.i.op = op) (hrs : s.i.reset = reset) (g1 : c ≠ 0) (g2 : st = 7) :
  Calls Tryz.prog 31 #[.pointer (some ⟨K, 0, none⟩)] W fun x w' => x = .returned (.tuple #[]) ∧ ∃ rv', WK w' K (beginsX s) rv' ∧ Turn K rv rv' W w' := by
 have HW := Lib.hid h
 have HL := Lib.hid hl
 have HC := Lib.hid hc
 have HST := Lib.hid hst
 have HPW := Lib.hid hpw
 have HOP := Lib.hid hop
 have HRS := Lib.hid hrs
 have HE : Hid (beginsX s = if c ≠ 0 ∧ st ≠ 7 then failsX s c
  else if st = 7 then (if (decide (c = 0) && reset && op && stillX s.a) = true then { (happX s 12) with a := { (happX s 12).a with cau := 0 }, fr := true } else s)
  else if pw = false ∧ st ≠ 0 then offX s
  else if (pw && op) = true ∧ st = 0 then onX s
  else s) := Lib.hid (by rw [← hc, ← hst, ← hpw, ← hop, ← hrs]; rfl)
 clear h hl hc hst hpw hop hrs
 have lK := HW.out.lt
 have HEQ : Hid (beginsX s = s) := Lib.hid (by subst g2; rw [HE.out, if_neg (by simp), if_pos rfl, decide_eq_false g1]; rfl)
 go_enter Tryz.func31, Tryz.ntmps31
 go_wp2_with fail
 refine (acause_at s K rv _ HW.out).mono ?_
 rw [HC.out]
 rintro e w1 ⟨rfl, hb1⟩
 obtain ⟨sv, nv, wv, cv, hp⟩ := HW.out.below hb1
 have HP1 := Lib.hid hp
 have HT1 : Hid (Turn K rv rv W w1) := Lib.hid (Turn.of_below hb1)
 clear hb1 lK
 have c_st : w1.cell? ⟨K, 0, none⟩ = some (.int .i64 st) := hp.cell 0 _ (by rw [← HST.out]; rfl)
 have c_pw : w1.cell? ⟨K, 26, none⟩ = some (.bool pw) := hp.cell 26 _ (by rw [← HPW.out]; rfl)
 have c_op : w1.cell? ⟨K, 27, none⟩ = some (.bool op) := hp.cell 27 _ (by rw [← HOP.out]; rfl)
 have c_rs : w1.cell? ⟨K, 33, none⟩ = some (.bool reset) := hp.cell 33 _ (by rw [← HRS.out]; rfl)
 have lK := hp.lt
 clear hp
 subst g2
 have u1 : (c != 0) = true := by simp [g1]
 have u2 : (c == 0) = false := by simp [g1]
 clear g1
 go_wp2
 first
  | exact bodyPost_ret (results_none rfl _ _ _) rfl ⟨rfl, rv, by rw [HEQ.out]; exact ⟨_, _, _, _, HP1.out⟩, HT1.out⟩
  | exact bodyPost_end (results_none rfl _ _ _) rfl ⟨rfl, rv, by rw [HEQ.out]; exact ⟨_, _, _, _, HP1.out⟩, HT1.out⟩

set_option maxRecDepth 100000 in
theorem abegins_c (s : WS) (K : Nat) (rv : Value) (W : World) (h : WK W K s rv) (hl : s.rs.length + 5 ≤ 2000) (c : Int) (hc : causeX s.a s.i = c) (st : Int) (hst : s.a.st = st) (pw op reset : Bool) (hpw : s.i.pw = pw) (hop : s.i.op = op) (hrs : s.i.reset = reset) (g1 : c = 0) (g2 : st = 7) (g3 : (reset && op) = false) :
  Calls Tryz.prog 31 #[.pointer (some ⟨K, 0, none⟩)] W fun x w' => x = .returned (.tuple #[]) ∧ ∃ rv', WK w' K (beginsX s) rv' ∧ Turn K rv rv' W w' := by
 have HW := Lib.hid h
 have HL := Lib.hid hl
 have HC := Lib.hid hc
 have HST := Lib.hid hst
 have HPW := Lib.hid hpw
 have HOP := Lib.hid hop
 have HRS := Lib.hid hrs
 have HE : Hid (beginsX s = if c ≠ 0 ∧ st ≠ 7 then failsX s c
  else if st = 7 then (if (decide (c = 0) && reset && op && stillX s.a) = true then { (happX s 12) with a := { (happX s 12).a with cau := 0 }, fr := true } else s)
  else if pw = false ∧ st ≠ 0 then offX s
  else if (pw && op) = true ∧ st = 0 then onX s
  else s) := Lib.hid (by rw [← hc, ← hst, ← hpw, ← hop, ← hrs]; rfl)
 clear h hl hc hst hpw hop hrs
 have lK := HW.out.lt
 have HEQ : Hid (beginsX s = s) := Lib.hid (by subst g1 g2; rw [HE.out, if_neg (by simp), if_pos rfl, decide_eq_true rfl, Bool.true_and, g3]; rfl)
 go_enter Tryz.func31, Tryz.ntmps31
 go_wp2_with fail
 refine (acause_at s K rv _ HW.out).mono ?_
 rw [HC.out]
 rintro e w1 ⟨rfl, hb1⟩
 obtain ⟨sv, nv, wv, cv, hp⟩ := HW.out.below hb1
 have HP1 := Lib.hid hp
 have HT1 : Hid (Turn K rv rv W w1) := Lib.hid (Turn.of_below hb1)
 clear hb1 lK
 have c_st : w1.cell? ⟨K, 0, none⟩ = some (.int .i64 st) := hp.cell 0 _ (by rw [← HST.out]; rfl)
 have c_pw : w1.cell? ⟨K, 26, none⟩ = some (.bool pw) := hp.cell 26 _ (by rw [← HPW.out]; rfl)
 have c_op : w1.cell? ⟨K, 27, none⟩ = some (.bool op) := hp.cell 27 _ (by rw [← HOP.out]; rfl)
 have c_rs : w1.cell? ⟨K, 33, none⟩ = some (.bool reset) := hp.cell 33 _ (by rw [← HRS.out]; rfl)
 have lK := hp.lt
 clear hp
 subst g1 g2
 cases reset
 ·clear g3
  go_wp2
  first
   | exact bodyPost_ret (results_none rfl _ _ _) rfl ⟨rfl, rv, by rw [HEQ.out]; exact ⟨_, _, _, _, HP1.out⟩, HT1.out⟩
   | exact bodyPost_end (results_none rfl _ _ _) rfl ⟨rfl, rv, by rw [HEQ.out]; exact ⟨_, _, _, _, HP1.out⟩, HT1.out⟩
 ·obtain rfl : op = false := by simpa using g3
  clear g3
  go_wp2
  first
   | exact bodyPost_ret (results_none rfl _ _ _) rfl ⟨rfl, rv, by rw [HEQ.out]; exact ⟨_, _, _, _, HP1.out⟩, HT1.out⟩
   | exact bodyPost_end (results_none rfl _ _ _) rfl ⟨rfl, rv, by rw [HEQ.out]; exact ⟨_, _, _, _, HP1.out⟩, HT1.out⟩

set_option maxRecDepth 100000 in
theorem abegins_d (s : WS) (K : Nat) (rv : Value) (W : World) (h : WK W K s rv) (hl : s.rs.length + 5 ≤ 2000) (c : Int) (hc : causeX s.a s.i = c) (st : Int) (hst : s.a.st = st) (pw op reset : Bool) (hpw : s.i.pw = pw) (hop : s.i.op = op) (hrs : s.i.reset = reset) (g1 : c = 0) (g2 : st = 7) (g3 : reset = true) (g4 : op = true) (hq : stillX s.a = false) :
  Calls Tryz.prog 31 #[.pointer (some ⟨K, 0, none⟩)] W fun x w' => x = .returned (.tuple #[]) ∧ ∃ rv', WK w' K (beginsX s) rv' ∧ Turn K rv rv' W w' := by
 have HW := Lib.hid h
 have HL := Lib.hid hl
 have HC := Lib.hid hc
 have HST := Lib.hid hst
 have HPW := Lib.hid hpw
 have HOP := Lib.hid hop
 have HRS := Lib.hid hrs
 have HE : Hid (beginsX s = if c ≠ 0 ∧ st ≠ 7 then failsX s c
  else if st = 7 then (if (decide (c = 0) && reset && op && stillX s.a) = true then { (happX s 12) with a := { (happX s 12).a with cau := 0 }, fr := true } else s)
  else if pw = false ∧ st ≠ 0 then offX s
  else if (pw && op) = true ∧ st = 0 then onX s
  else s) := Lib.hid (by rw [← hc, ← hst, ← hpw, ← hop, ← hrs]; rfl)
 clear h hl hc hst hpw hop hrs
 have lK := HW.out.lt
 have HEQ : Hid (beginsX s = s) := Lib.hid (by subst g1 g2 g3 g4; rw [HE.out, if_neg (by simp), if_pos rfl, hq]; rfl)
 have HQ := Lib.hid hq
 clear hq
 go_enter Tryz.func31, Tryz.ntmps31
 go_wp2_with fail
 refine (acause_at s K rv _ HW.out).mono ?_
 rw [HC.out]
 rintro e w1 ⟨rfl, hb1⟩
 obtain ⟨sv, nv, wv, cv, hp⟩ := HW.out.below hb1
 have HP1 := Lib.hid hp
 have HT1 : Hid (Turn K rv rv W w1) := Lib.hid (Turn.of_below hb1)
 clear hb1 lK
 have c_st : w1.cell? ⟨K, 0, none⟩ = some (.int .i64 st) := hp.cell 0 _ (by rw [← HST.out]; rfl)
 have c_pw : w1.cell? ⟨K, 26, none⟩ = some (.bool pw) := hp.cell 26 _ (by rw [← HPW.out]; rfl)
 have c_op : w1.cell? ⟨K, 27, none⟩ = some (.bool op) := hp.cell 27 _ (by rw [← HOP.out]; rfl)
 have c_rs : w1.cell? ⟨K, 33, none⟩ = some (.bool reset) := hp.cell 33 _ (by rw [← HRS.out]; rfl)
 have lK := hp.lt
 clear hp
 subst g1 g2 g3 g4
 obtain ⟨sv, nv, wv, cv, hp⟩ : WK w1 K s rv := ⟨_, _, _, _, HP1.out⟩
 obtain ⟨L, hL⟩ := axL_some s.a sv nv wv
 have HAL := Lib.hid hL
 have HRG := Lib.hid (hp.range hL)
 have HSL : Hid (Calls Tryz.prog 60 #[.agg L.toArray] w1 fun e w' => e = .returned (.bool false) ∧ Below w1.heap.size w1 w') := Lib.hid (astill_L s.a sv nv wv L false w1 hL hp.sm (by have := rightW_yes hp.inv.smr; omega) HQ.out)
 clear hL hp
 go_wp2_with (first | refine wpList_load_mid rfl 35 _ rfl K 0 rfl L _ HRG.out Tryz.underlying35 rfl HAL.out.size ?_ | refine wpList_load_midG 35 _ rfl K 0 rfl L _ HRG.out Tryz.underlying35 rfl HAL.out.size (by kernel_rfl) ?_)
 refine (HSL.out).mono ?_
 rintro e w2 ⟨rfl, hb2⟩
 have HW2 : Hid (WK w2 K s rv) := Lib.hid (WK.below ⟨_, _, _, _, HP1.out⟩ hb2)
 have HT2 := Lib.hid (HT1.out.trans (Turn.of_below hb2))
 clear hb2
 go_wp2
 first
  | exact bodyPost_ret (results_none rfl _ _ _) rfl ⟨rfl, rv, by rw [HEQ.out]; exact HW2.out, HT2.out⟩
  | exact bodyPost_end (results_none rfl _ _ _) rfl ⟨rfl, rv, by rw [HEQ.out]; exact HW2.out, HT2.out⟩

set_option maxRecDepth 100000 in
theorem abegins_e (s : WS) (K : Nat) (rv : Value) (W : World) (h : WK W K s rv) (hl : s.rs.length + 5 ≤ 2000) (c : Int) (hc : causeX s.a s.i = c) (st : Int) (hst : s.a.st = st) (pw op reset : Bool) (hpw : s.i.pw = pw) (hop : s.i.op = op) (hrs : s.i.reset = reset) (g1 : c = 0) (g2 : st = 7) (g3 : reset = true) (g4 : op = true) (hq : stillX s.a = true) :
  Calls Tryz.prog 31 #[.pointer (some ⟨K, 0, none⟩)] W fun x w' => x = .returned (.tuple #[]) ∧ ∃ rv', WK w' K (beginsX s) rv' ∧ Turn K rv rv' W w' := by
 have HW := Lib.hid h
 have HL := Lib.hid hl
 have HC := Lib.hid hc
 have HST := Lib.hid hst
 have HPW := Lib.hid hpw
 have HOP := Lib.hid hop
 have HRS := Lib.hid hrs
 have HE : Hid (beginsX s = if c ≠ 0 ∧ st ≠ 7 then failsX s c
  else if st = 7 then (if (decide (c = 0) && reset && op && stillX s.a) = true then { (happX s 12) with a := { (happX s 12).a with cau := 0 }, fr := true } else s)
  else if pw = false ∧ st ≠ 0 then offX s
  else if (pw && op) = true ∧ st = 0 then onX s
  else s) := Lib.hid (by rw [← hc, ← hst, ← hpw, ← hop, ← hrs]; rfl)
 clear h hl hc hst hpw hop hrs
 have lK := HW.out.lt
 have HEQ : Hid (beginsX s = { (happX s 12) with a := { (happX s 12).a with cau := 0 }, fr := true }) := Lib.hid (by subst g1 g2 g3 g4; rw [HE.out, if_neg (by simp), if_pos rfl, hq]; rfl)
 have HQ := Lib.hid hq
 clear hq
 go_enter Tryz.func31, Tryz.ntmps31
 go_wp2_with fail
 refine (acause_at s K rv _ HW.out).mono ?_
 rw [HC.out]
 rintro e w1 ⟨rfl, hb1⟩
 obtain ⟨sv, nv, wv, cv, hp⟩ := HW.out.below hb1
 have HP1 := Lib.hid hp
 have HT1 : Hid (Turn K rv rv W w1) := Lib.hid (Turn.of_below hb1)
 clear hb1 lK
 have c_st : w1.cell? ⟨K, 0, none⟩ = some (.int .i64 st) := hp.cell 0 _ (by rw [← HST.out]; rfl)
 have c_pw : w1.cell? ⟨K, 26, none⟩ = some (.bool pw) := hp.cell 26 _ (by rw [← HPW.out]; rfl)
 have c_op : w1.cell? ⟨K, 27, none⟩ = some (.bool op) := hp.cell 27 _ (by rw [← HOP.out]; rfl)
 have c_rs : w1.cell? ⟨K, 33, none⟩ = some (.bool reset) := hp.cell 33 _ (by rw [← HRS.out]; rfl)
 have lK := hp.lt
 clear hp
 subst g1 g2 g3 g4
 obtain ⟨sv, nv, wv, cv, hp⟩ : WK w1 K s rv := ⟨_, _, _, _, HP1.out⟩
 obtain ⟨L, hL⟩ := axL_some s.a sv nv wv
 have HAL := Lib.hid hL
 have HRG := Lib.hid (hp.range hL)
 have HSL : Hid (Calls Tryz.prog 60 #[.agg L.toArray] w1 fun e w' => e = .returned (.bool true) ∧ Below w1.heap.size w1 w') := Lib.hid (astill_L s.a sv nv wv L true w1 hL hp.sm (by have := rightW_yes hp.inv.smr; omega) HQ.out)
 clear hL hp
 go_wp2_with (first | refine wpList_load_mid rfl 35 _ rfl K 0 rfl L _ HRG.out Tryz.underlying35 rfl HAL.out.size ?_ | refine wpList_load_midG 35 _ rfl K 0 rfl L _ HRG.out Tryz.underlying35 rfl HAL.out.size (by kernel_rfl) ?_)
 refine (HSL.out).mono ?_
 rintro e w2 ⟨rfl, hb2⟩
 have HW2 : Hid (WK w2 K s rv) := Lib.hid (WK.below ⟨_, _, _, _, HP1.out⟩ hb2)
 have HT2 := Lib.hid (HT1.out.trans (Turn.of_below hb2))
 clear hb2
 go_wp2_with fail
 refine (ahapp_at s 12 K rv _ HW2.out).mono ?_
 rintro e w8 ⟨rfl, ⟨sv8, nv8, wv8, cv8, hp8⟩, ht8⟩
 have HP8 := Lib.hid hp8
 have HT8 := Lib.hid (HT2.out.trans ht8)
 clear ht8 c_st c_pw c_op c_rs lK
 have c_cau := hp8.cell 24 _ rfl
 have c_fr := hp8.cell 39 _ rfl
 have lK := hp8.lt
 have fK := hp8.froz
 clear hp8
 have hf := HP8.out.put0 [(24, .int .i64 0), (39, .bool true)] ({ (happX s 12) with a := { (happX s 12).a with cau := 0 }, fr := true }) rfl rfl rfl rfl rfl (HP8.out.inv.cau 0) rfl
 have HF := Lib.hid hf
 clear hf
 go_wp2
 first
  | exact bodyPost_ret (results_none rfl _ _ _) rfl ⟨rfl, rv, by rw [HEQ.out]; exact ⟨_, _, _, _, HF.out.1⟩, HT8.out.trans HF.out.2⟩
  | exact bodyPost_end (results_none rfl _ _ _) rfl ⟨rfl, rv, by rw [HEQ.out]; exact ⟨_, _, _, _, HF.out.1⟩, HT8.out.trans HF.out.2⟩

set_option maxRecDepth 100000 in
theorem abegins_f (s : WS) (K : Nat) (rv : Value) (W : World) (h : WK W K s rv) (hl : s.rs.length + 5 ≤ 2000) (c : Int) (hc : causeX s.a s.i = c) (st : Int) (hst : s.a.st = st) (pw op reset : Bool) (hpw : s.i.pw = pw) (hop : s.i.op = op) (hrs : s.i.reset = reset) (g1 : c = 0) (g2 : st ≠ 7) (g3 : pw = false) (g4 : st ≠ 0) :
  Calls Tryz.prog 31 #[.pointer (some ⟨K, 0, none⟩)] W fun x w' => x = .returned (.tuple #[]) ∧ ∃ rv', WK w' K (beginsX s) rv' ∧ Turn K rv rv' W w' := by
 have HW := Lib.hid h
 have HL := Lib.hid hl
 have HC := Lib.hid hc
 have HST := Lib.hid hst
 have HPW := Lib.hid hpw
 have HOP := Lib.hid hop
 have HRS := Lib.hid hrs
 have HE : Hid (beginsX s = if c ≠ 0 ∧ st ≠ 7 then failsX s c
  else if st = 7 then (if (decide (c = 0) && reset && op && stillX s.a) = true then { (happX s 12) with a := { (happX s 12).a with cau := 0 }, fr := true } else s)
  else if pw = false ∧ st ≠ 0 then offX s
  else if (pw && op) = true ∧ st = 0 then onX s
  else s) := Lib.hid (by rw [← hc, ← hst, ← hpw, ← hop, ← hrs]; rfl)
 clear h hl hc hst hpw hop hrs
 have lK := HW.out.lt
 have HEQ : Hid (beginsX s = offX s) := Lib.hid (by subst g1 g3; rw [HE.out, if_neg (by simp), if_neg g2, if_pos ⟨rfl, g4⟩])
 go_enter Tryz.func31, Tryz.ntmps31
 go_wp2_with fail
 refine (acause_at s K rv _ HW.out).mono ?_
 rw [HC.out]
 rintro e w1 ⟨rfl, hb1⟩
 obtain ⟨sv, nv, wv, cv, hp⟩ := HW.out.below hb1
 have HP1 := Lib.hid hp
 have HT1 : Hid (Turn K rv rv W w1) := Lib.hid (Turn.of_below hb1)
 clear hb1 lK
 have c_st : w1.cell? ⟨K, 0, none⟩ = some (.int .i64 st) := hp.cell 0 _ (by rw [← HST.out]; rfl)
 have c_pw : w1.cell? ⟨K, 26, none⟩ = some (.bool pw) := hp.cell 26 _ (by rw [← HPW.out]; rfl)
 have c_op : w1.cell? ⟨K, 27, none⟩ = some (.bool op) := hp.cell 27 _ (by rw [← HOP.out]; rfl)
 have c_rs : w1.cell? ⟨K, 33, none⟩ = some (.bool reset) := hp.cell 33 _ (by rw [← HRS.out]; rfl)
 have lK := hp.lt
 clear hp
 subst g1 g3
 have u1 : (st == 7) = false := by simp [g2]
 have u2 : (st != 0) = true := by simp [g4]
 clear g2 g4
 go_wp2_with fail
 refine (aoff_at s K rv _ ⟨_, _, _, _, HP1.out⟩ HL.out).mono ?_
 rintro e w8 ⟨rfl, rv8, hw8, ht8⟩
 have HW8 := Lib.hid hw8
 have HT8 := Lib.hid (HT1.out.trans ht8)
 clear hw8 ht8
 go_wp2
 first
  | exact bodyPost_ret (results_none rfl _ _ _) rfl ⟨rfl, rv8, by rw [HEQ.out]; exact HW8.out, HT8.out⟩
  | exact bodyPost_end (results_none rfl _ _ _) rfl ⟨rfl, rv8, by rw [HEQ.out]; exact HW8.out, HT8.out⟩

set_option maxRecDepth 100000 in
theorem abegins_g (s : WS) (K : Nat) (rv : Value) (W : World) (h : WK W K s rv) (hl : s.rs.length + 5 ≤ 2000) (c : Int) (hc : causeX s.a s.i = c) (st : Int) (hst : s.a.st = st) (pw op reset : Bool) (hpw : s.i.pw = pw) (hop : s.i.op = op) (hrs : s.i.reset = reset) (g1 : c = 0) (g2 : st = 0) (g3 : pw = true) (g4 : op = true) :
  Calls Tryz.prog 31 #[.pointer (some ⟨K, 0, none⟩)] W fun x w' => x = .returned (.tuple #[]) ∧ ∃ rv', WK w' K (beginsX s) rv' ∧ Turn K rv rv' W w' := by
 have HW := Lib.hid h
 have HL := Lib.hid hl
 have HC := Lib.hid hc
 have HST := Lib.hid hst
 have HPW := Lib.hid hpw
 have HOP := Lib.hid hop
 have HRS := Lib.hid hrs
 have HE : Hid (beginsX s = if c ≠ 0 ∧ st ≠ 7 then failsX s c
  else if st = 7 then (if (decide (c = 0) && reset && op && stillX s.a) = true then { (happX s 12) with a := { (happX s 12).a with cau := 0 }, fr := true } else s)
  else if pw = false ∧ st ≠ 0 then offX s
  else if (pw && op) = true ∧ st = 0 then onX s
  else s) := Lib.hid (by rw [← hc, ← hst, ← hpw, ← hop, ← hrs]; rfl)
 clear h hl hc hst hpw hop hrs
 have lK := HW.out.lt
 have HEQ : Hid (beginsX s = onX s) := Lib.hid (by subst g1 g2 g3 g4; rw [HE.out, if_neg (by simp), if_neg (by simp), if_neg (by simp), if_pos ⟨rfl, rfl⟩])
 go_enter Tryz.func31, Tryz.ntmps31
 go_wp2_with fail
 refine (acause_at s K rv _ HW.out).mono ?_
 rw [HC.out]
 rintro e w1 ⟨rfl, hb1⟩
 obtain ⟨sv, nv, wv, cv, hp⟩ := HW.out.below hb1
 have HP1 := Lib.hid hp
 have HT1 : Hid (Turn K rv rv W w1) := Lib.hid (Turn.of_below hb1)
 clear hb1 lK
 have c_st : w1.cell? ⟨K, 0, none⟩ = some (.int .i64 st) := hp.cell 0 _ (by rw [← HST.out]; rfl)
 have c_pw : w1.cell? ⟨K, 26, none⟩ = some (.bool pw) := hp.cell 26 _ (by rw [← HPW.out]; rfl)
 have c_op : w1.cell? ⟨K, 27, none⟩ = some (.bool op) := hp.cell 27 _ (by rw [← HOP.out]; rfl)
 have c_rs : w1.cell? ⟨K, 33, none⟩ = some (.bool reset) := hp.cell 33 _ (by rw [← HRS.out]; rfl)
 have lK := hp.lt
 clear hp
 subst g1 g2 g3 g4
 go_wp2_with fail
 refine (aon_at s K rv _ ⟨_, _, _, _, HP1.out⟩).mono ?_
 rintro e w8 ⟨rfl, hw8, ht8⟩
 have HW8 := Lib.hid hw8
 have HT8 := Lib.hid (HT1.out.trans ht8)
 clear hw8 ht8
 go_wp2
 first
  | exact bodyPost_ret (results_none rfl _ _ _) rfl ⟨rfl, rv, by rw [HEQ.out]; exact HW8.out, HT8.out⟩
  | exact bodyPost_end (results_none rfl _ _ _) rfl ⟨rfl, rv, by rw [HEQ.out]; exact HW8.out, HT8.out⟩

set_option maxRecDepth 100000 in
theorem abegins_h (s : WS) (K : Nat) (rv : Value) (W : World) (h : WK W K s rv) (hl : s.rs.length + 5 ≤ 2000) (c : Int) (hc : causeX s.a s.i = c) (st : Int) (hst : s.a.st = st) (pw op reset : Bool) (hpw : s.i.pw = pw) (hop : s.i.op = op) (hrs : s.i.reset = reset) (g1 : c = 0) (g2 : st = 0) (g3 : (pw && op) = false) :
  Calls Tryz.prog 31 #[.pointer (some ⟨K, 0, none⟩)] W fun x w' => x = .returned (.tuple #[]) ∧ ∃ rv', WK w' K (beginsX s) rv' ∧ Turn K rv rv' W w' := by
 have HW := Lib.hid h
 have HL := Lib.hid hl
 have HC := Lib.hid hc
 have HST := Lib.hid hst
 have HPW := Lib.hid hpw
 have HOP := Lib.hid hop
 have HRS := Lib.hid hrs
 have HE : Hid (beginsX s = if c ≠ 0 ∧ st ≠ 7 then failsX s c
  else if st = 7 then (if (decide (c = 0) && reset && op && stillX s.a) = true then { (happX s 12) with a := { (happX s 12).a with cau := 0 }, fr := true } else s)
  else if pw = false ∧ st ≠ 0 then offX s
  else if (pw && op) = true ∧ st = 0 then onX s
  else s) := Lib.hid (by rw [← hc, ← hst, ← hpw, ← hop, ← hrs]; rfl)
 clear h hl hc hst hpw hop hrs
 have lK := HW.out.lt
 have HEQ : Hid (beginsX s = s) := Lib.hid (by subst g1 g2; rw [HE.out, if_neg (by simp), if_neg (by simp), if_neg (by simp), if_neg (by rw [g3]; simp)])
 go_enter Tryz.func31, Tryz.ntmps31
 go_wp2_with fail
 refine (acause_at s K rv _ HW.out).mono ?_
 rw [HC.out]
 rintro e w1 ⟨rfl, hb1⟩
 obtain ⟨sv, nv, wv, cv, hp⟩ := HW.out.below hb1
 have HP1 := Lib.hid hp
 have HT1 : Hid (Turn K rv rv W w1) := Lib.hid (Turn.of_below hb1)
 clear hb1 lK
 have c_st : w1.cell? ⟨K, 0, none⟩ = some (.int .i64 st) := hp.cell 0 _ (by rw [← HST.out]; rfl)
 have c_pw : w1.cell? ⟨K, 26, none⟩ = some (.bool pw) := hp.cell 26 _ (by rw [← HPW.out]; rfl)
 have c_op : w1.cell? ⟨K, 27, none⟩ = some (.bool op) := hp.cell 27 _ (by rw [← HOP.out]; rfl)
 have c_rs : w1.cell? ⟨K, 33, none⟩ = some (.bool reset) := hp.cell 33 _ (by rw [← HRS.out]; rfl)
 have lK := hp.lt
 clear hp
 subst g1 g2
 cases pw
 ·clear g3
  go_wp2
  first
   | exact bodyPost_ret (results_none rfl _ _ _) rfl ⟨rfl, rv, by rw [HEQ.out]; exact ⟨_, _, _, _, HP1.out⟩, HT1.out⟩
   | exact bodyPost_end (results_none rfl _ _ _) rfl ⟨rfl, rv, by rw [HEQ.out]; exact ⟨_, _, _, _, HP1.out⟩, HT1.out⟩
 ·obtain rfl : op = false := by simpa using g3
  clear g3
  go_wp2
  first
   | exact bodyPost_ret (results_none rfl _ _ _) rfl ⟨rfl, rv, by rw [HEQ.out]; exact ⟨_, _, _, _, HP1.out⟩, HT1.out⟩
   | exact bodyPost_end (results_none rfl _ _ _) rfl ⟨rfl, rv, by rw [HEQ.out]; exact ⟨_, _, _, _, HP1.out⟩, HT1.out⟩

set_option maxRecDepth 100000 in
theorem abegins_i (s : WS) (K : Nat) (rv : Value) (W : World) (h : WK W K s rv) (hl : s.rs.length + 5 ≤ 2000) (c : Int) (hc : causeX s.a s.i = c) (st : Int) (hst : s.a.st = st) (pw op reset : Bool) (hpw : s.i.pw = pw) (hop : s.i.op = op) (hrs : s.i.reset = reset) (g1 : c = 0) (g2 : st ≠ 7) (g3 : pw = true) (g4 : st ≠ 0) :
  Calls Tryz.prog 31 #[.pointer (some ⟨K, 0, none⟩)] W fun x w' => x = .returned (.tuple #[]) ∧ ∃ rv', WK w' K (beginsX s) rv' ∧ Turn K rv rv' W w' := by
 have HW := Lib.hid h
 have HL := Lib.hid hl
 have HC := Lib.hid hc
 have HST := Lib.hid hst
 have HPW := Lib.hid hpw
 have HOP := Lib.hid hop
 have HRS := Lib.hid hrs
 have HE : Hid (beginsX s = if c ≠ 0 ∧ st ≠ 7 then failsX s c
  else if st = 7 then (if (decide (c = 0) && reset && op && stillX s.a) = true then { (happX s 12) with a := { (happX s 12).a with cau := 0 }, fr := true } else s)
  else if pw = false ∧ st ≠ 0 then offX s
  else if (pw && op) = true ∧ st = 0 then onX s
  else s) := Lib.hid (by rw [← hc, ← hst, ← hpw, ← hop, ← hrs]; rfl)
 clear h hl hc hst hpw hop hrs
 have lK := HW.out.lt
 have HEQ : Hid (beginsX s = s) := Lib.hid (by subst g1 g3; rw [HE.out, if_neg (by simp), if_neg g2, if_neg (by simp), if_neg (fun hh => g4 hh.2)])
 go_enter Tryz.func31, Tryz.ntmps31
 go_wp2_with fail
 refine (acause_at s K rv _ HW.out).mono ?_
 rw [HC.out]
 rintro e w1 ⟨rfl, hb1⟩
 obtain ⟨sv, nv, wv, cv, hp⟩ := HW.out.below hb1
 have HP1 := Lib.hid hp
 have HT1 : Hid (Turn K rv rv W w1) := Lib.hid (Turn.of_below hb1)
 clear hb1 lK
 have c_st : w1.cell? ⟨K, 0, none⟩ = some (.int .i64 st) := hp.cell 0 _ (by rw [← HST.out]; rfl)
 have c_pw : w1.cell? ⟨K, 26, none⟩ = some (.bool pw) := hp.cell 26 _ (by rw [← HPW.out]; rfl)
 have c_op : w1.cell? ⟨K, 27, none⟩ = some (.bool op) := hp.cell 27 _ (by rw [← HOP.out]; rfl)
 have c_rs : w1.cell? ⟨K, 33, none⟩ = some (.bool reset) := hp.cell 33 _ (by rw [← HRS.out]; rfl)
 have lK := hp.lt
 clear hp
 subst g1 g3
 have u1 : (st == 7) = false := by simp [g2]
 have u2 : (st != 0) = true := by simp [g4]
 have u3 : (st == 0) = false := by simp [g4]
 clear g2 g4
 cases op
 ·go_wp2
  first
   | exact bodyPost_ret (results_none rfl _ _ _) rfl ⟨rfl, rv, by rw [HEQ.out]; exact ⟨_, _, _, _, HP1.out⟩, HT1.out⟩
   | exact bodyPost_end (results_none rfl _ _ _) rfl ⟨rfl, rv, by rw [HEQ.out]; exact ⟨_, _, _, _, HP1.out⟩, HT1.out⟩
 ·go_wp2
  first
   | exact bodyPost_ret (results_none rfl _ _ _) rfl ⟨rfl, rv, by rw [HEQ.out]; exact ⟨_, _, _, _, HP1.out⟩, HT1.out⟩
   | exact bodyPost_end (results_none rfl _ _ _) rfl ⟨rfl, rv, by rw [HEQ.out]; exact ⟨_, _, _, _, HP1.out⟩, HT1.out⟩

theorem abegins_at (s : WS) (K : Nat) (rv : Value) (W : World) (h : WK W K s rv) (hl : s.rs.length + 5 ≤ 2000) :
  Calls Tryz.prog 31 #[.pointer (some ⟨K, 0, none⟩)] W fun x w' => x = .returned (.tuple #[]) ∧ ∃ rv', WK w' K (beginsX s) rv' ∧ Turn K rv rv' W w' := by
 by_cases g1 : causeX s.a s.i = 0
 ·by_cases g2 : s.a.st = 7
  ·cases g3 : s.i.reset
   ·exact abegins_c s K rv W h hl _ rfl _ rfl _ _ _ rfl rfl rfl g1 g2 (by rw [g3]; rfl)
   ·cases g4 : s.i.op
    ·exact abegins_c s K rv W h hl _ rfl _ rfl _ _ _ rfl rfl rfl g1 g2 (by rw [g4, Bool.and_false])
    ·cases hq : stillX s.a
     ·exact abegins_d s K rv W h hl _ rfl _ rfl _ _ _ rfl rfl rfl g1 g2 g3 g4 hq
     ·exact abegins_e s K rv W h hl _ rfl _ rfl _ _ _ rfl rfl rfl g1 g2 g3 g4 hq
  ·by_cases g4 : s.a.st = 0
   ·cases g3 : s.i.pw
    ·exact abegins_h s K rv W h hl _ rfl _ rfl _ _ _ rfl rfl rfl g1 g4 (by rw [g3]; rfl)
    ·cases g5 : s.i.op
     ·exact abegins_h s K rv W h hl _ rfl _ rfl _ _ _ rfl rfl rfl g1 g4 (by rw [g5, Bool.and_false])
     ·exact abegins_g s K rv W h hl _ rfl _ rfl _ _ _ rfl rfl rfl g1 g4 g3 g5
   ·cases g3 : s.i.pw
    ·exact abegins_f s K rv W h hl _ rfl _ rfl _ _ _ rfl rfl rfl g1 g2 g3 g4
    ·exact abegins_i s K rv W h hl _ rfl _ rfl _ _ _ rfl rfl rfl g1 g2 g3 g4
 ·by_cases g2 : s.a.st = 7
  ·exact abegins_b s K rv W h hl _ rfl _ rfl _ _ _ rfl rfl rfl g1 g2
  ·exact abegins_a s K rv W h hl _ rfl _ rfl _ _ _ rfl rfl rfl g1 g2


theorem under_w {a : AX} (h : AxI a) (ho : (underX a).ok = true) : CmdW (underX a).x := by
 unfold underX at ho ⊢
 have hc := h.cw
 cases hn : a.ns with
 | nil => rw [hn] at ho; exact absurd ho (by decide)
 | cons y l => rw [hn] at hc; exact hc y (by simp)
theorem last_w {a : AX} (h : AxI a) (ho : (underX a).ok = true) : CmdW (lastR a.ns a.ws).x := by
 unfold underX at ho
 have hc := h.cw
 have hl := h.line
 rcases line_cases hl with ⟨hn, -⟩ | ⟨y, hn⟩
 ·rw [hn] at ho
  exact absurd ho (by decide)
 ·rw [hn] at hc hl ⊢
  have h1 := (told_one hl).2.2.2.1
  exact hc _ (List.mem_of_getElem? h1)
theorem from_w {a : AX} (h : AxI a) (c : CmdS) : I64 (fromX a c) := by
 unfold fromX
 split
 ·rename_i h1
  exact (last_w h h1.1).target
 ·split
  ·rename_i h1
   exact (under_w h h1.1).target
  ·have := h.pos
   exact ⟨by omega, by omega⟩

set_option maxRecDepth 100000 in
theorem aplace_at (s : WS) (c : CmdS) (K : Nat) (rv : Value) (W : World) (h : WK W K s rv) (hc : CmdW c) (p : Int) (o : Bool) (hp : placeX s.a c = (p, o)) :
  Calls Tryz.prog 90 #[.pointer (some ⟨K, 0, none⟩), c.val] W fun x w' => x = .returned (.tuple #[.int .i64 p, .bool o]) ∧ Below W.heap.size W w' := by
 have HW := Lib.hid h
 have lK := h.lt
 have hfw : I64 (fromX s.a c) := by
  obtain ⟨sv, nv, wv, cv, hp⟩ := h
  exact from_w hp.inv c
 have htw := hc.target
 obtain ⟨f, hf⟩ : ∃ f, fromX s.a c = f := ⟨_, rfl⟩
 have HF := Lib.hid hf
 rw [hf] at hfw
 unfold placeX at hp
 rw [hf] at hp
 obtain ⟨kd, hkd⟩ : ∃ x, c.kind = x := ⟨_, rfl⟩
 obtain ⟨tg, htg⟩ : ∃ x, c.target = x := ⟨_, rfl⟩
 obtain ⟨md, hmd⟩ : ∃ x, c.mode = x := ⟨_, rfl⟩
 show Calls Tryz.prog 90 #[.pointer (some ⟨K, 0, none⟩), .agg #[.int .i64 c.id, .int .i64 c.kind, .int .i64 c.target, .int .i64 c.speed, .int .i64 c.mode, .int .i64 c.num, .int .i64 c.den]] W _
 rw [hkd, htg] at hp
 rw [htg] at htw
 rw [hkd, htg, hmd]
 have HKD := Lib.hid hkd
 have HMD := Lib.hid hmd
 clear h hc hf htg hkd hmd
 by_cases k1 : kd = 1
 ·subst k1
  rw [if_pos rfl] at hp
  obtain ⟨rfl, rfl⟩ := Prod.mk.inj hp
  clear hp
  go_enter Tryz.func90, Tryz.ntmps90
  go_wp2
  go_ret2
  exact ⟨rfl, by exact belowBy⟩
 ·rw [if_neg k1] at hp
  obtain ⟨hv, ho⟩ := Prod.mk.inj hp
  have HV := Lib.hid hv
  have HO := Lib.hid ho
  clear hp hv ho
  obtain ⟨x, q, hu⟩ : ∃ x q, underX s.a = ⟨x, q⟩ := ⟨_, _, rfl⟩
  obtain ⟨y, z, hla⟩ : ∃ y z, lastR s.a.ns s.a.ws = ⟨y, z⟩ := ⟨_, _, rfl⟩
  have HU := Lib.hid hu
  have HLA := Lib.hid hla
  have HFE : Hid (f = if q = true ∧ md ≠ 0 then y.target else if q = true ∧ kd = 3 ∧ moveC x = true then x.target else s.a.g.p) := Lib.hid (by
   rw [← HF.out]
   unfold fromX
   rw [hu, hla, HKD.out, HMD.out])
  clear hu hla
  go_enter Tryz.func90, Tryz.ntmps90
  go_upto_region 1 with (fail)
  refine wp_name fun W1 hW1 => ?_
  obtain ⟨B, hB⟩ : ∃ B, B = W.heap.size := ⟨_, rfl⟩
  have hbel : Below W.heap.size W W1 := by rw [hW1.out]; exact belowBy
  have hlB : B < W1.heap.size := by rw [hW1.out, hB]; simp
  have b1 : W1.cell? ⟨B, 1, none⟩ = some (.int .i64 kd) := by rw [hW1.out, hB]; go_simp
  have b2 : W1.cell? ⟨B, 2, none⟩ = some (.int .i64 tg) := by rw [hW1.out, hB]; go_simp
  have b4 : W1.cell? ⟨B, 4, none⟩ = some (.int .i64 md) := by rw [hW1.out, hB]; go_simp
  have HB := Lib.hid hbel
  obtain ⟨sv, nv, wv, cv, hp⟩ := HW.out.below hbel
  have HP1 := Lib.hid hp
  have c_gp := hp.cell 10 _ rfl
  have lK := hp.lt
  have fK := hp.froz
  (try rw [← hB])
  clear hW1 hB hbel hp lK
  go_wp2_with fail
  refine (aunder_at s ⟨x, q⟩ K rv _ ⟨_, _, _, _, HP1.out⟩ HU.out).mono ?_
  simp only [CmdS.val]
  rintro e w2 ⟨rfl, hb2⟩
  have HP2 := Lib.hid (HP1.out.below hb2)
  have HB2 := Lib.hid hb2
  clear hb2
  go_upto_region 5 with (fail)
  refine wp_name fun W3 hW3 => ?_
  obtain ⟨B7, hB7⟩ : ∃ B, B = w2.heap.size := ⟨_, rfl⟩
  have hbel : Below w2.heap.size w2 W3 := by rw [hW3.out]; exact belowBy
  have hl7 : B7 < W3.heap.size := by rw [hW3.out, hB7]; simp
  have x0 : W3.cell? ⟨B7, 0, none⟩ = some (.int .i64 x.id) := by rw [hW3.out, hB7]; go_simp
  have x1 : W3.cell? ⟨B7, 1, none⟩ = some (.int .i64 x.kind) := by rw [hW3.out, hB7]; go_simp
  have x2 : W3.cell? ⟨B7, 2, none⟩ = some (.int .i64 x.target) := by rw [hW3.out, hB7]; go_simp
  have x3 : W3.cell? ⟨B7, 3, none⟩ = some (.int .i64 x.speed) := by rw [hW3.out, hB7]; go_simp
  have x4 : W3.cell? ⟨B7, 4, none⟩ = some (.int .i64 x.mode) := by rw [hW3.out, hB7]; go_simp
  have x5 : W3.cell? ⟨B7, 5, none⟩ = some (.int .i64 x.num) := by rw [hW3.out, hB7]; go_simp
  have x6 : W3.cell? ⟨B7, 6, none⟩ = some (.int .i64 x.den) := by rw [hW3.out, hB7]; go_simp
  have HP3 := Lib.hid (HP2.out.below hbel)
  have HB3 := Lib.hid (HB2.out.trans (hbel.mono HB2.out.size))
  have hp3 := HP3.out
  (try rw [← hB7])
  (try simp only [Act.put])
  clear hW3 hB7 hbel c_gp lK fK
  have c_nv := hp3.cell 14 _ rfl
  have c_wv := hp3.cell 15 _ rfl
  have lK := hp3.lt
  have fK := hp3.froz
  clear hp3
  have hlen := lineB_yes HP3.out.inv.line
  have HLE : Hid (s.a.ns.length ≤ 400 ∧ s.a.ws.length ≤ 400) := Lib.hid ⟨by omega, by omega⟩
  clear hlen
  go_wp2_with fail
  refine (llast_at s.a.ns s.a.ws _ 0 _ HP3.out.ln HLE.out.1 HLE.out.2).mono ?_
  rw [HLA.out]
  simp only [OnePost, CmdS.val]
  rintro e w4 ⟨rfl, hb4⟩
  have HP4 := Lib.hid (HP3.out.below hb4)
  have HB4 := Lib.hid (HB3.out.trans (hb4.mono HB3.out.size))
  have HBB := Lib.hid hb4
  clear hb4 c_nv c_wv lK fK
  go_upto_region 6 with (fail)
  refine wp_name fun W5 hW5 => ?_
  obtain ⟨B9, hB9⟩ : ∃ B, B = w4.heap.size := ⟨_, rfl⟩
  have hbel : Below w4.heap.size w4 W5 := by rw [hW5.out]; exact belowBy
  have hl9 : B9 < W5.heap.size := by rw [hW5.out, hB9]; simp
  have y2 : W5.cell? ⟨B9, 2, none⟩ = some (.int .i64 y.target) := by rw [hW5.out, hB9]; go_simp
  have hba : Below W1.heap.size W1 W5 := (HB4.out).trans (hbel.mono HB4.out.size)
  have hbb : Below W3.heap.size W3 W5 := (HBB.out).trans (hbel.mono HBB.out.size)
  have b1 := (hba.cell (p := ⟨B, 1, none⟩) hlB).trans b1
  have b2 := (hba.cell (p := ⟨B, 2, none⟩) hlB).trans b2
  have b4 := (hba.cell (p := ⟨B, 4, none⟩) hlB).trans b4
  have x0 := (hbb.cell (p := ⟨B7, 0, none⟩) hl7).trans x0
  have x1 := (hbb.cell (p := ⟨B7, 1, none⟩) hl7).trans x1
  have x2 := (hbb.cell (p := ⟨B7, 2, none⟩) hl7).trans x2
  have x3 := (hbb.cell (p := ⟨B7, 3, none⟩) hl7).trans x3
  have x4 := (hbb.cell (p := ⟨B7, 4, none⟩) hl7).trans x4
  have x5 := (hbb.cell (p := ⟨B7, 5, none⟩) hl7).trans x5
  have x6 := (hbb.cell (p := ⟨B7, 6, none⟩) hl7).trans x6
  have lB := Nat.lt_of_lt_of_le hlB hba.size
  have l7 := Nat.lt_of_lt_of_le hl7 hbb.size
  have HB5 := Lib.hid (HB.out.trans (hba.mono HB.out.size))
  (try rw [← hB9])
  (try simp only [Act.put])
  clear hW5 hB9 hbel hba hbb hlB hl7 HB HB2 HB3 HB4 HBB
  cases q
  ·have hf0 : f = s.a.g.p := by rw [HFE.out]; rfl
   subst hf0
   go_wp2_with (first | (go_at_call 110; refine (qadd_at _ _ p o _ hfw htw HV.out HO.out).mono ?_; rintro e w' ⟨rfl, rfl⟩))
   go_ret2
   exact ⟨rfl, HB5.out⟩
  ·by_cases m0 : md = 0
   ·subst m0
    by_cases k3 : kd = 3
    ·subst k3
     cases hm : moveC x
     ·have hf0 : f = s.a.g.p := by rw [HFE.out, hm]; rfl
      have HM := Lib.hid hm
      subst hf0
      clear hm
      go_wp2_with (fail)
      refine (amove_at x false _ HM.out).mono ?_
      rintro e w6 ⟨rfl, hb6⟩
      have b2 := (hb6.cell (p := ⟨B, 2, none⟩) lB).trans b2
      have lB6 := Nat.lt_of_lt_of_le lB hb6.size
      have HB6 := Lib.hid (HB5.out.trans (hb6.mono HB5.out.size))
      clear hb6
      go_wp2_with (first | (go_at_call 110; refine (qadd_at _ _ p o _ hfw htw HV.out HO.out).mono ?_; rintro e w' ⟨rfl, rfl⟩))
      go_ret2
      exact ⟨rfl, HB6.out⟩
     ·have hf0 : f = x.target := by rw [HFE.out, hm]; rfl
      have HM := Lib.hid hm
      subst hf0
      clear hm
      go_wp2_with (fail)
      refine (amove_at x true _ HM.out).mono ?_
      rintro e w6 ⟨rfl, hb6⟩
      have b2 := (hb6.cell (p := ⟨B, 2, none⟩) lB).trans b2
      have x2 := (hb6.cell (p := ⟨B7, 2, none⟩) l7).trans x2
      have lB6 := Nat.lt_of_lt_of_le lB hb6.size
      have l76 := Nat.lt_of_lt_of_le l7 hb6.size
      have HB6 := Lib.hid (HB5.out.trans (hb6.mono HB5.out.size))
      clear hb6
      go_wp2_with (first | (go_at_call 110; refine (qadd_at _ _ p o _ hfw htw HV.out HO.out).mono ?_; rintro e w' ⟨rfl, rfl⟩))
      go_ret2
      exact ⟨rfl, HB6.out⟩
    ·have hf0 : f = s.a.g.p := by rw [HFE.out, if_neg (by simp), if_neg (fun hh => k3 hh.2.1)]
     subst hf0
     go_wp2_with (first | (go_at_call 110; refine (qadd_at _ _ p o _ hfw htw HV.out HO.out).mono ?_; rintro e w' ⟨rfl, rfl⟩))
     all_goals go_ret2
     all_goals exact ⟨rfl, HB5.out⟩
   ·have hf0 : f = y.target := by rw [HFE.out, if_pos ⟨rfl, m0⟩]
    subst hf0
    have u1 : (md != 0) = true := by simp [m0]
    clear m0
    go_wp2_with (first | (go_at_call 110; refine (qadd_at _ _ p o _ hfw htw HV.out HO.out).mono ?_; rintro e w' ⟨rfl, rfl⟩))
    go_ret2
    exact ⟨rfl, HB5.out⟩

end Go.Proofs.YthhfnageadckkaaGreat
