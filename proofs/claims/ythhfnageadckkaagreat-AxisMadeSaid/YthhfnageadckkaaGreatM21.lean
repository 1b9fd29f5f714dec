/- Merged: Layer 15: a command is under way: home. PRINTED by wip/tool/mkstarts.py Layer 15: a command is under way: a gear. PRINTED by wip/tool/mkstarts.py Layer 15: a command is under way: the others. PRINTED by wip/tool/mkstarts.py Layer 15: a command has ended. Layer 15: the place becomes that of the home switch. Layer 15: the axis of a worker, loaded as a whole: its cells under one name. -/
import Derived.Test.YthhfnageadckkaaGreatM20
import Derived.Deep.RegionHeld3
import Derived.Test.YthhfnageadckkaaGreatLineRI
import Derived.Deep.MidRow
set_option linter.unusedVariables false
set_option linter.unusedSimpArgs false
set_option maxHeartbeats 4000000
namespace Go.Proofs.YthhfnageadckkaaGreat
open Go.RowKit
attribute [local go_sem] ite_max ite_min vite_max vite_min ext_cell ext_frozen

set_option maxRecDepth 100000 in
theorem astarts7 (s : WS) (c : CmdS) (K : Nat) (rv : Value) (W : World) (h : WK W K s rv) (hl : s.rs.length + 1 ≤ 2000) (hkind : c.kind = 7) :
  Calls Tryz.prog 67 #[.pointer (some ⟨K, 0, none⟩), c.val] W fun x w' => x = .returned (.tuple #[]) ∧ ∃ rv', WK w' K (startsX s c) rv' ∧ Turn K rv rv' W w' := by
 have HH := Lib.hid h
 obtain ⟨s1, hs1⟩ : ∃ x, tellX s 1 [c.id] = x := ⟨_, rfl⟩
 have HTL : Hid (∀ W' v, Below W.heap.size W W' → SmV W' [c.id] v → ApV K rv v → Calls Tryz.prog 65 #[.pointer (some ⟨K, 0, none⟩), .int .i64 1, v] W' fun x w' => x = .returned (.tuple #[]) ∧ ∃ rv', WK w' K s1 rv' ∧ Turn K rv rv' W' w') := Lib.hid (fun W' v hb hv ha => by
  rw [← hs1]
  obtain ⟨sv, nv, wv, cv, hp⟩ := h
  exact atell_at s 1 [c.id] v K rv W' ⟨sv, nv, wv, cv, hp.below hb⟩ hv ha (by simpa using hl))
 have HAP : Hid (∀ g, W.heap.size ≤ g → ApV K rv (.slice (some ⟨g, 0, none⟩) 1 1)) := Lib.hid (fun g hg => by
  obtain ⟨sv, nv, wv, cv, hp⟩ := h
  exact ApV.new_row hp hg _ _)
 have HEQ : Hid (startsX s c = startsK s1 c.kind) := Lib.hid (by rw [← hs1]; rfl)
 have lK : K < W.heap.size := by
  obtain ⟨sv, nv, wv, cv, hp⟩ := h
  exact hp.lt
 obtain ⟨kd, hkd⟩ : ∃ x, c.kind = x := ⟨_, rfl⟩
 show Calls Tryz.prog 67 #[.pointer (some ⟨K, 0, none⟩), .agg #[.int .i64 c.id, .int .i64 c.kind, .int .i64 c.target, .int .i64 c.speed, .int .i64 c.mode, .int .i64 c.num, .int .i64 c.den]] W _
 rw [hkd] at HEQ hkind ⊢
 clear h hs1 hkd hl
 subst hkind
 go_enter Tryz.func67, Tryz.ntmps67
 go_upto_region 1 with (fail)
 refine wp_name fun W1 hW1 => ?_
 obtain ⟨B, hB⟩ : ∃ B, B = W.heap.size := ⟨_, rfl⟩
 have hbel : Below W.heap.size W W1 := by rw [hW1.out]; exact belowBy
 have hlB : B < W1.heap.size := by rw [hW1.out, hB]; simp
 have c0 : W1.cell? ⟨B, 0, none⟩ = some (.int .i64 c.id) := by rw [hW1.out, hB]; go_simp
 have c1 : W1.cell? ⟨B, 1, none⟩ = some (.int .i64 7) := by rw [hW1.out, hB]; go_simp
 have HB := Lib.hid hbel
 have HBN : Hid (W.heap.size ≤ B) := Lib.hid (by omega)
 have lK1 : K < W1.heap.size := Nat.lt_of_lt_of_le lK hbel.size
 (try rw [← hB])
 clear hW1 hbel hB lK
 go_wp2_with fail
 refine (HTL.out _ _ (below_new HB.out (Nat.le_refl _) _) SmV.one (HAP.out _ HB.out.size)).mono ?_
 rintro e w2 ⟨rfl, rv2, hw2, ht2⟩
 have cB : w2.cell? ⟨B, 1, none⟩ = some (.int .i64 7) := by
  obtain ⟨sv, nv, wv, cv, hp⟩ := HH.out
  have h1 := hp.lt
  refine (ht2.buts.cell B 1 (by simp; omega) (fun hq => ?_)).trans ?_
  ·rcases hq with hq | hq
   ·have := HBN.out
    omega
   ·have := (hp.own.lt B hq).2
    have := HBN.out
    omega
  ·exact ((below_new (Below.refl _ _) (Nat.le_refl _) _).cell (p := ⟨B, 1, none⟩) hlB).trans c1
 have lB : B < w2.heap.size := Nat.lt_of_lt_of_le hlB (Nat.le_trans (by simp) ht2.buts.size)
 have HW2 := Lib.hid hw2
 have HT2 : Hid (Turn K rv rv2 W w2) := Lib.hid ((Turn.of_below (below_new HB.out (Nat.le_refl _) _)).trans ht2)
 clear c0 c1 hlB hw2 ht2 HTL HAP lK1 HB
 have lK2 : K < w2.heap.size := by
  obtain ⟨sv, nv, wv, cv, hp⟩ := HW2.out
  exact hp.lt
 have HEQ : Hid (startsX s c = { (happX s1 3) with a := { (happX s1 3).a with h := ⟨0, s1.a.fast, s1.a.creep, false⟩, hd := false } }) := Lib.hid (by rw [HEQ.out]; rfl)
 go_wp2_with fail
 refine (ahapp_at s1 3 K rv2 _ HW2.out).mono ?_
 rintro e w3 ⟨rfl, hw3, ht3⟩
 obtain ⟨sv, nv, wv, cv, hp3⟩ := hw3
 have HP3 := Lib.hid hp3
 have HT3 := Lib.hid (HT2.out.trans ht3)
 have HHN := Lib.hid hp3.inv.hom
 have c_fast := hp3.cell 8 _ rfl
 have c_creep := hp3.cell 9 _ rfl
 have lK := hp3.lt
 have fK := hp3.froz
 clear hp3 ht3 cB lB lK2
 have HBD := Lib.hid ((Below.refl w3.heap.size w3).drew)
 go_upto_region 12 with (fail)
 go_region_held3 (fun w' => w'.cell? ⟨K, 8, none⟩ = some (.int .i64 (happX s1 3).a.fast) ∧ w'.cell? ⟨K, 9, none⟩ = some (.int .i64 (happX s1 3).a.creep)) (first | (refine ⟨?_, ?_⟩ <;> assumption) | (refine ⟨?_, ?_⟩ <;> (go_simp; done)) | go_keep)
  (first
   | (go_at_call 40; (with_reducible refine (hnew_yes _ _ _ HHN.out).mono ?_); rintro e w4 ⟨rfl, hb4⟩; have HP4 := Lib.hid (HP3.out.below (HBD.out.trans hb4)); have HB4 := Lib.hid (HBD.out.trans hb4); have d8 := HP4.out.cell 8 _ rfl; have d9 := HP4.out.cell 9 _ rfl; have d16 := HP4.out.cell 16 _ rfl; have d17 := HP4.out.cell 17 _ rfl; have d18 := HP4.out.cell 18 _ rfl; have d19 := HP4.out.cell 19 _ rfl; have d20 := HP4.out.cell 20 _ rfl; have df := HP4.out.froz; have dl := HP4.out.lt))
 all_goals
  have hf := HP4.out.put0 [(17, .int .i64 0), (18, .int .i64 (happX s1 3).a.fast), (19, .int .i64 (happX s1 3).a.creep), (20, .bool false), (16, .bool false)] { (happX s1 3) with a := { (happX s1 3).a with h := ⟨0, s1.a.fast, s1.a.creep, false⟩, hd := false } } rfl rfl rfl rfl rfl (HP4.out.inv.h ⟨0, s1.a.fast, s1.a.creep, false⟩).lost rfl
  have HF := Lib.hid hf
  clear hf
  go_wp2
  exact bodyPost_end (results_none rfl _ _ _) rfl ⟨rfl, rv2, by rw [HEQ.out]; exact ⟨sv, nv, wv, cv, HF.out.1⟩, HT3.out.trans ((Turn.of_below HB4.out).trans HF.out.2)⟩


set_option maxRecDepth 100000 in
theorem astarts8 (s : WS) (c : CmdS) (K : Nat) (rv : Value) (W : World) (h : WK W K s rv) (hl : s.rs.length + 1 ≤ 2000) (hkind : c.kind = 8) :
  Calls Tryz.prog 67 #[.pointer (some ⟨K, 0, none⟩), c.val] W fun x w' => x = .returned (.tuple #[]) ∧ ∃ rv', WK w' K (startsX s c) rv' ∧ Turn K rv rv' W w' := by
 have HH := Lib.hid h
 obtain ⟨s1, hs1⟩ : ∃ x, tellX s 1 [c.id] = x := ⟨_, rfl⟩
 have HTL : Hid (∀ W' v, Below W.heap.size W W' → SmV W' [c.id] v → ApV K rv v → Calls Tryz.prog 65 #[.pointer (some ⟨K, 0, none⟩), .int .i64 1, v] W' fun x w' => x = .returned (.tuple #[]) ∧ ∃ rv', WK w' K s1 rv' ∧ Turn K rv rv' W' w') := Lib.hid (fun W' v hb hv ha => by
  rw [← hs1]
  obtain ⟨sv, nv, wv, cv, hp⟩ := h
  exact atell_at s 1 [c.id] v K rv W' ⟨sv, nv, wv, cv, hp.below hb⟩ hv ha (by simpa using hl))
 have HAP : Hid (∀ g, W.heap.size ≤ g → ApV K rv (.slice (some ⟨g, 0, none⟩) 1 1)) := Lib.hid (fun g hg => by
  obtain ⟨sv, nv, wv, cv, hp⟩ := h
  exact ApV.new_row hp hg _ _)
 have HEQ : Hid (startsX s c = startsK s1 c.kind) := Lib.hid (by rw [← hs1]; rfl)
 have lK : K < W.heap.size := by
  obtain ⟨sv, nv, wv, cv, hp⟩ := h
  exact hp.lt
 obtain ⟨kd, hkd⟩ : ∃ x, c.kind = x := ⟨_, rfl⟩
 show Calls Tryz.prog 67 #[.pointer (some ⟨K, 0, none⟩), .agg #[.int .i64 c.id, .int .i64 c.kind, .int .i64 c.target, .int .i64 c.speed, .int .i64 c.mode, .int .i64 c.num, .int .i64 c.den]] W _
 rw [hkd] at HEQ hkind ⊢
 clear h hs1 hkd hl
 subst hkind
 go_enter Tryz.func67, Tryz.ntmps67
 go_upto_region 1 with (fail)
 refine wp_name fun W1 hW1 => ?_
 obtain ⟨B, hB⟩ : ∃ B, B = W.heap.size := ⟨_, rfl⟩
 have hbel : Below W.heap.size W W1 := by rw [hW1.out]; exact belowBy
 have hlB : B < W1.heap.size := by rw [hW1.out, hB]; simp
 have c0 : W1.cell? ⟨B, 0, none⟩ = some (.int .i64 c.id) := by rw [hW1.out, hB]; go_simp
 have c1 : W1.cell? ⟨B, 1, none⟩ = some (.int .i64 8) := by rw [hW1.out, hB]; go_simp
 have HB := Lib.hid hbel
 have HBN : Hid (W.heap.size ≤ B) := Lib.hid (by omega)
 have lK1 : K < W1.heap.size := Nat.lt_of_lt_of_le lK hbel.size
 (try rw [← hB])
 clear hW1 hbel hB lK
 go_wp2_with fail
 refine (HTL.out _ _ (below_new HB.out (Nat.le_refl _) _) SmV.one (HAP.out _ HB.out.size)).mono ?_
 rintro e w2 ⟨rfl, rv2, hw2, ht2⟩
 have cB : w2.cell? ⟨B, 1, none⟩ = some (.int .i64 8) := by
  obtain ⟨sv, nv, wv, cv, hp⟩ := HH.out
  have h1 := hp.lt
  refine (ht2.buts.cell B 1 (by simp; omega) (fun hq => ?_)).trans ?_
  ·rcases hq with hq | hq
   ·have := HBN.out
    omega
   ·have := (hp.own.lt B hq).2
    have := HBN.out
    omega
  ·exact ((below_new (Below.refl _ _) (Nat.le_refl _) _).cell (p := ⟨B, 1, none⟩) hlB).trans c1
 have lB : B < w2.heap.size := Nat.lt_of_lt_of_le hlB (Nat.le_trans (by simp) ht2.buts.size)
 have HW2 := Lib.hid hw2
 have HT2 : Hid (Turn K rv rv2 W w2) := Lib.hid ((Turn.of_below (below_new HB.out (Nat.le_refl _) _)).trans ht2)
 clear c0 c1 hlB hw2 ht2 HTL HAP lK1 HB
 have lK2 : K < w2.heap.size := by
  obtain ⟨sv, nv, wv, cv, hp⟩ := HW2.out
  exact hp.lt
 have HEQ : Hid (startsX s c = { (happX s1 7) with a := { (happX s1 7).a with sta := s1.a.g.p, mas := s1.i.mas, ins := true } }) := Lib.hid (by rw [HEQ.out]; rfl)
 go_wp2_with fail
 refine (ahapp_at s1 7 K rv2 _ HW2.out).mono ?_
 rintro e w3 ⟨rfl, hw3, ht3⟩
 obtain ⟨sv, nv, wv, cv, hp3⟩ := hw3
 have HP3 := Lib.hid hp3
 have HT3 := Lib.hid (HT2.out.trans ht3)
 have c_gp := hp3.cell 10 _ rfl
 have c_imas := hp3.cell 36 _ rfl
 have c_sta := hp3.cell 22 _ rfl
 have c_mas := hp3.cell 23 _ rfl
 have c_ins := hp3.cell 25 _ rfl
 have lK := hp3.lt
 have fK := hp3.froz
 clear hp3 ht3 cB lB lK2
 have HBD := Lib.hid ((Below.refl w3.heap.size w3).drew)
 have lKd := (HP3.out.below HBD.out).lt
 have fKd := (HP3.out.below HBD.out).froz
 go_upto_region 16 with (fail)
 go_region_held3 (fun w' => w'.cell? ⟨K, 10, none⟩ = some (.int .i64 (happX s1 7).a.g.p) ∧ w'.cell? ⟨K, 36, none⟩ = some (.int .i64 (happX s1 7).i.mas)) (first | (refine ⟨?_, ?_⟩ <;> assumption) | (refine ⟨?_, ?_⟩ <;> (go_simp; done)) | go_keep) (fail)
 all_goals
  have hf := HP3.out.put0 [(22, .int .i64 (happX s1 7).a.g.p), (23, .int .i64 (happX s1 7).i.mas), (25, .bool true)] { (happX s1 7) with a := { (happX s1 7).a with sta := s1.a.g.p, mas := s1.i.mas, ins := true } } rfl rfl rfl rfl rfl ((HP3.out.inv.gear s1.a.g.p s1.i.mas (by have := HP3.out.inv.pos; exact ⟨by show _ ≤ (happX s1 7).a.g.p; omega, by show (happX s1 7).a.g.p ≤ _; omega⟩) HP3.out.iw.mas).ins true) rfl
  have HF := Lib.hid hf
  clear hf
  go_wp2
  exact bodyPost_end (results_none rfl _ _ _) rfl ⟨rfl, rv2, by rw [HEQ.out]; exact ⟨sv, nv, wv, cv, HF.out.1.below (Below.refl _ _).drew⟩, HT3.out.trans (HF.out.2.trans (Turn.of_below (Below.refl _ _).drew))⟩


set_option maxRecDepth 100000 in
theorem astarts_rest (s : WS) (c : CmdS) (K : Nat) (rv : Value) (W : World) (h : WK W K s rv) (hl : s.rs.length + 1 ≤ 2000) (hkind : c.kind ≠ 7 ∧ c.kind ≠ 8) :
  Calls Tryz.prog 67 #[.pointer (some ⟨K, 0, none⟩), c.val] W fun x w' => x = .returned (.tuple #[]) ∧ ∃ rv', WK w' K (startsX s c) rv' ∧ Turn K rv rv' W w' := by
 have HH := Lib.hid h
 obtain ⟨s1, hs1⟩ : ∃ x, tellX s 1 [c.id] = x := ⟨_, rfl⟩
 have HTL : Hid (∀ W' v, Below W.heap.size W W' → SmV W' [c.id] v → ApV K rv v → Calls Tryz.prog 65 #[.pointer (some ⟨K, 0, none⟩), .int .i64 1, v] W' fun x w' => x = .returned (.tuple #[]) ∧ ∃ rv', WK w' K s1 rv' ∧ Turn K rv rv' W' w') := Lib.hid (fun W' v hb hv ha => by
  rw [← hs1]
  obtain ⟨sv, nv, wv, cv, hp⟩ := h
  exact atell_at s 1 [c.id] v K rv W' ⟨sv, nv, wv, cv, hp.below hb⟩ hv ha (by simpa using hl))
 have HAP : Hid (∀ g, W.heap.size ≤ g → ApV K rv (.slice (some ⟨g, 0, none⟩) 1 1)) := Lib.hid (fun g hg => by
  obtain ⟨sv, nv, wv, cv, hp⟩ := h
  exact ApV.new_row hp hg _ _)
 have HEQ : Hid (startsX s c = startsK s1 c.kind) := Lib.hid (by rw [← hs1]; rfl)
 have lK : K < W.heap.size := by
  obtain ⟨sv, nv, wv, cv, hp⟩ := h
  exact hp.lt
 obtain ⟨kd, hkd⟩ : ∃ x, c.kind = x := ⟨_, rfl⟩
 show Calls Tryz.prog 67 #[.pointer (some ⟨K, 0, none⟩), .agg #[.int .i64 c.id, .int .i64 c.kind, .int .i64 c.target, .int .i64 c.speed, .int .i64 c.mode, .int .i64 c.num, .int .i64 c.den]] W _
 rw [hkd] at HEQ hkind ⊢
 clear h hs1 hkd hl
 obtain ⟨k7, k8⟩ := hkind
 go_enter Tryz.func67, Tryz.ntmps67
 go_upto_region 1 with (fail)
 refine wp_name fun W1 hW1 => ?_
 obtain ⟨B, hB⟩ : ∃ B, B = W.heap.size := ⟨_, rfl⟩
 have hbel : Below W.heap.size W W1 := by rw [hW1.out]; exact belowBy
 have hlB : B < W1.heap.size := by rw [hW1.out, hB]; simp
 have c0 : W1.cell? ⟨B, 0, none⟩ = some (.int .i64 c.id) := by rw [hW1.out, hB]; go_simp
 have c1 : W1.cell? ⟨B, 1, none⟩ = some (.int .i64 kd) := by rw [hW1.out, hB]; go_simp
 have HB := Lib.hid hbel
 have HBN : Hid (W.heap.size ≤ B) := Lib.hid (by omega)
 have lK1 : K < W1.heap.size := Nat.lt_of_lt_of_le lK hbel.size
 (try rw [← hB])
 clear hW1 hbel hB lK
 go_wp2_with fail
 refine (HTL.out _ _ (below_new HB.out (Nat.le_refl _) _) SmV.one (HAP.out _ HB.out.size)).mono ?_
 rintro e w2 ⟨rfl, rv2, hw2, ht2⟩
 have cB : w2.cell? ⟨B, 1, none⟩ = some (.int .i64 kd) := by
  obtain ⟨sv, nv, wv, cv, hp⟩ := HH.out
  have h1 := hp.lt
  refine (ht2.buts.cell B 1 (by simp; omega) (fun hq => ?_)).trans ?_
  ·rcases hq with hq | hq
   ·have := HBN.out
    omega
   ·have := (hp.own.lt B hq).2
    have := HBN.out
    omega
  ·exact ((below_new (Below.refl _ _) (Nat.le_refl _) _).cell (p := ⟨B, 1, none⟩) hlB).trans c1
 have lB : B < w2.heap.size := Nat.lt_of_lt_of_le hlB (Nat.le_trans (by simp) ht2.buts.size)
 have HW2 := Lib.hid hw2
 have HT2 : Hid (Turn K rv rv2 W w2) := Lib.hid ((Turn.of_below (below_new HB.out (Nat.le_refl _) _)).trans ht2)
 clear c0 c1 hlB hw2 ht2 HTL HAP lK1 HB
 have lK2 : K < w2.heap.size := by
  obtain ⟨sv, nv, wv, cv, hp⟩ := HW2.out
  exact hp.lt
 by_cases k1 : kd = 1
 ·subst k1
  have HEQ : Hid (startsX s c = happX s1 5) := Lib.hid (by rw [HEQ.out]; rfl)
  go_wp2_with fail
  refine (ahapp_at s1 5 K rv2 _ HW2.out).mono ?_
  rintro e w3 ⟨rfl, hw3, ht3⟩
  go_wp2
  exact bodyPost_end (results_none rfl _ _ _) rfl ⟨rfl, rv2, by rw [HEQ.out]; exact hw3, HT2.out.trans ht3⟩
 ·skip
  by_cases k5 : kd = 5
  ·subst k5
   have HEQ : Hid (startsX s c = happX s1 5) := Lib.hid (by rw [HEQ.out]; rfl)
   go_wp2_with fail
   refine (ahapp_at s1 5 K rv2 _ HW2.out).mono ?_
   rintro e w3 ⟨rfl, hw3, ht3⟩
   go_wp2
   exact bodyPost_end (results_none rfl _ _ _) rfl ⟨rfl, rv2, by rw [HEQ.out]; exact hw3, HT2.out.trans ht3⟩
  ·skip
   by_cases k4 : kd = 4
   ·subst k4
    have HEQ : Hid (startsX s c = happX s1 6) := Lib.hid (by rw [HEQ.out]; rfl)
    go_wp2_with fail
    refine (ahapp_at s1 6 K rv2 _ HW2.out).mono ?_
    rintro e w3 ⟨rfl, hw3, ht3⟩
    go_wp2
    exact bodyPost_end (results_none rfl _ _ _) rfl ⟨rfl, rv2, by rw [HEQ.out]; exact hw3, HT2.out.trans ht3⟩
   ·skip
    by_cases k6 : kd = 6
    ·subst k6
     have HEQ : Hid (startsX s c = happX s1 8) := Lib.hid (by rw [HEQ.out]; rfl)
     go_wp2_with fail
     refine (ahapp_at s1 8 K rv2 _ HW2.out).mono ?_
     rintro e w3 ⟨rfl, hw3, ht3⟩
     go_wp2
     exact bodyPost_end (results_none rfl _ _ _) rfl ⟨rfl, rv2, by rw [HEQ.out]; exact hw3, HT2.out.trans ht3⟩
    ·skip
     have HEQ : Hid (startsX s c = s1) := Lib.hid (by rw [HEQ.out]; unfold startsK; rw [if_neg (by omega), if_neg (by omega), if_neg (by omega), if_neg (by omega), if_neg (by omega)])
     go_wp2
     exact bodyPost_end (results_none rfl _ _ _) rfl ⟨rfl, rv2, by rw [HEQ.out]; exact HW2.out, HT2.out⟩

theorem astarts_at (s : WS) (c : CmdS) (K : Nat) (rv : Value) (W : World) (h : WK W K s rv) (hl : s.rs.length + 1 ≤ 2000) :
  Calls Tryz.prog 67 #[.pointer (some ⟨K, 0, none⟩), c.val] W fun x w' => x = .returned (.tuple #[]) ∧ ∃ rv', WK w' K (startsX s c) rv' ∧ Turn K rv rv' W w' := by
 by_cases k7 : c.kind = 7
 ·exact astarts7 s c K rv W h hl k7
 ·by_cases k8 : c.kind = 8
  ·exact astarts8 s c K rv W h hl k8
  ·exact astarts_rest s c K rv W h hl ⟨k7, k8⟩


theorem WK.below {W W' : World} {K : Nat} {s : WS} {rv : Value} (h : WK W K s rv) (hb : Below W.heap.size W W') : WK W' K s rv := by
 obtain ⟨sv, nv, wv, cv, hp⟩ := h
 exact ⟨sv, nv, wv, cv, hp.below hb⟩
theorem WK.lt {W : World} {K : Nat} {s : WS} {rv : Value} (h : WK W K s rv) : K < W.heap.size := by
 obtain ⟨sv, nv, wv, cv, hp⟩ := h
 exact hp.lt

set_option maxRecDepth 100000 in
theorem adone_at (s : WS) (ev : Int) (K : Nat) (rv : Value) (W : World) (h : WK W K s rv) (hl : s.rs.length + 2 ≤ 2000) :
  Calls Tryz.prog 69 #[.pointer (some ⟨K, 0, none⟩), .int .i64 ev] W fun x w' => x = .returned (.tuple #[]) ∧ ∃ rv', WK w' K (doneX s ev) rv' ∧ Turn K rv rv' W w' := by
 obtain ⟨sv, nv, wv, cv, hp⟩ := h
 have HP := Lib.hid hp
 have HL := Lib.hid hl
 obtain ⟨r, hr⟩ : ∃ r, endR s.a.ns s.a.ws = r := ⟨_, rfl⟩
 obtain ⟨s4, hs4⟩ : ∃ x, tellX (lineX s r.ns r.ws) 2 [r.id] = x := ⟨_, rfl⟩
 obtain ⟨x, o, hu⟩ : ∃ x o, underX s4.a = ⟨x, o⟩ := ⟨_, _, rfl⟩
 have HEQ : Hid (doneX s ev = (if o = true then startsX s4 x else happX s4 ev)) := Lib.hid (by
  have h1 : doneX s ev = (if (underX s4.a).ok = true then startsX s4 (underX s4.a).x else happX s4 ev) := by
   rw [← hs4, ← hr]
   rfl
  rw [h1, hu])
 have HU := Lib.hid hu
 have HS4 := Lib.hid hs4
 have HR := Lib.hid hr
 have HIE : Hid (AxI (lineX s r.ns r.ws).a) := Lib.hid (by rw [← hr]; exact inv_end hp.inv)
 have c_nv := hp.cell 14 _ rfl
 have c_wv := hp.cell 15 _ rfl
 have lK := hp.lt
 have fK := hp.froz
 clear hp hl hr hs4 hu
 go_enter Tryz.func69, Tryz.ntmps69
 go_wp2_with fail
 refine (lend_at s.a.ns s.a.ws _ 0 _ HP.out.ln).mono ?_
 rw [HR.out]
 rintro e w1 ⟨v, rfl, hl1, hb1⟩
 obtain ⟨A1, d1, A2, d2, rfl⟩ := hl1.slices
 have HP1 := Lib.hid (HP.out.below hb1)
 have HB1 := Lib.hid hb1
 have HL1 := Lib.hid hl1
 obtain ⟨n1, hn1⟩ : ∃ n, r.ns.length = n := ⟨_, rfl⟩
 obtain ⟨n2, hn2⟩ : ∃ n, r.ws.length = n := ⟨_, rfl⟩
 have HL1' : Hid (LineV w1 W.heap.size r.ns r.ws (.agg #[.slice A1 n1 d1, .slice A2 n2 d2])) := Lib.hid (by rw [← hn1, ← hn2]; exact hl1)
 rw [hn1, hn2]
 clear c_nv c_wv lK fK hl1 hb1 hn1 hn2 HL1
 go_upto_region 1 with (fail)
 refine wp_name fun W2 hW2 => ?_
 obtain ⟨B, hB⟩ : ∃ B, B = w1.heap.size := ⟨_, rfl⟩
 have hbel : Below w1.heap.size w1 W2 := by rw [hW2.out]; exact belowBy
 have hlB : B < W2.heap.size := by rw [hW2.out, hB]; simp
 have c0 : W2.cell? ⟨B, 0, none⟩ = some (.slice A1 n1 d1) := by rw [hW2.out, hB]; go_simp
 have c1 : W2.cell? ⟨B, 1, none⟩ = some (.slice A2 n2 d2) := by rw [hW2.out, hB]; go_simp
 have HB2 := Lib.hid hbel
 have HP2 := Lib.hid (HP1.out.below hbel)
 have HT2 : Hid (Turn K rv rv W W2) := Lib.hid ((Turn.of_below HB1.out).trans (Turn.of_below hbel))
 have hp2 := HP2.out
 have c_nv := hp2.cell 14 _ rfl
 have c_wv := hp2.cell 15 _ rfl
 have lK := hp2.lt
 have fK := hp2.froz
 (try rw [← hB])
 (try simp only [Act.put])
 clear hW2 hbel hB hp2
 go_upto_region 2 with (fail)
 refine wp_name fun W3 hW3 => ?_
 have hln : LineV W2 0 r.ns r.ws (.agg #[.slice A1 n1 d1, .slice A2 n2 d2]) := (HL1'.out.below HB2.out).base0 (Nat.zero_le _)
 have han := ApW.new_line HP.out HL1'.out (Nat.le_refl _)
 have hf := HP2.out.putN [(14, .slice A1 n1 d1), (15, .slice A2 n2 d2)] (lineX s r.ns r.ws) rfl HP2.out.sm hln HP2.out.a1 han.1 han.2 rfl HIE.out rfl
 have HP3 : Hid (WKp W3 K (lineX s r.ns r.ws) rv sv (.slice A1 n1 d1) (.slice A2 n2 d2) cv ∧ Turn K rv rv W2 W3) := Lib.hid (by rw [hW3.out]; exact hf)
 have HT3 := Lib.hid (HT2.out.trans HP3.out.2)
 have lK3 := HP3.out.1.lt
 clear hf hW3 hln han c0 c1 hlB c_nv c_wv lK fK
 go_wp2_with fail
 refine (atell_at (lineX s r.ns r.ws) 2 [r.id] _ K rv _ ⟨_, _, _, _, HP3.out.1.below (below_new (Below.refl _ _) (Nat.le_refl _) _)⟩ SmV.one (ApV.new_row HP3.out.1 (Nat.le_refl _) _ _) (by have := HL.out; show s.rs.length + 1 ≤ 2000; omega)).mono ?_
 rw [HS4.out]
 rintro e w4 ⟨rfl, rv4, hw4, ht4⟩
 have HW4 := Lib.hid hw4
 have HT4 : Hid (Turn K rv rv4 W w4) := Lib.hid (HT3.out.trans ((Turn.of_below (below_new (Below.refl _ _) (Nat.le_refl _) _)).trans ht4))
 have HRL : Hid (s4.rs.length + 1 ≤ 2000) := Lib.hid (by
  have := HL.out
  rw [← HS4.out]
  simp [tellX, lineX]
  omega)
 clear hw4 ht4 lK3
 go_wp2_with fail
 refine (aunder_at s4 ⟨x, o⟩ K rv4 _ HW4.out HU.out).mono ?_
 simp only [CmdS.val]
 rintro e w5 ⟨rfl, hb5⟩
 have HW5 := Lib.hid (HW4.out.below hb5)
 have HT5 := Lib.hid (HT4.out.trans (Turn.of_below hb5))
 clear hb5
 go_upto_region 4 with (fail)
 refine wp_name fun W6 hW6 => ?_
 obtain ⟨B6, hB6⟩ : ∃ B, B = w5.heap.size := ⟨_, rfl⟩
 have hbel6 : Below w5.heap.size w5 W6 := by rw [hW6.out]; exact belowBy
 have hl6 : B6 < W6.heap.size := by rw [hW6.out, hB6]; simp
 have x0 : W6.cell? ⟨B6, 0, none⟩ = some (.int .i64 x.id) := by rw [hW6.out, hB6]; go_simp
 have x1 : W6.cell? ⟨B6, 1, none⟩ = some (.int .i64 x.kind) := by rw [hW6.out, hB6]; go_simp
 have x2 : W6.cell? ⟨B6, 2, none⟩ = some (.int .i64 x.target) := by rw [hW6.out, hB6]; go_simp
 have x3 : W6.cell? ⟨B6, 3, none⟩ = some (.int .i64 x.speed) := by rw [hW6.out, hB6]; go_simp
 have x4 : W6.cell? ⟨B6, 4, none⟩ = some (.int .i64 x.mode) := by rw [hW6.out, hB6]; go_simp
 have x5 : W6.cell? ⟨B6, 5, none⟩ = some (.int .i64 x.num) := by rw [hW6.out, hB6]; go_simp
 have x6 : W6.cell? ⟨B6, 6, none⟩ = some (.int .i64 x.den) := by rw [hW6.out, hB6]; go_simp
 have HW6 := Lib.hid (HW5.out.below hbel6)
 have HT6 := Lib.hid (HT5.out.trans (Turn.of_below hbel6))
 (try rw [← hB6])
 (try simp only [Act.put])
 clear hW6 hbel6 hB6
 cases o
 ·go_wp2_with fail
  refine (ahapp_at s4 ev K rv4 _ HW6.out).mono ?_
  rintro e w7 ⟨rfl, hw7, ht7⟩
  go_wp2
  exact bodyPost_end (results_none rfl _ _ _) rfl ⟨rfl, rv4, by rw [HEQ.out]; exact hw7, HT6.out.trans ht7⟩
 ·go_wp2_with fail
  refine (astarts_at s4 x K rv4 _ HW6.out HRL.out).mono ?_
  rintro e w7 ⟨rfl, rv7, hw7, ht7⟩
  go_wp2
  first
   | exact bodyPost_ret (results_none rfl _ _ _) rfl ⟨rfl, rv7, by rw [HEQ.out]; exact hw7, HT6.out.trans ht7⟩
   | exact bodyPost_end (results_none rfl _ _ _) rfl ⟨rfl, rv7, by rw [HEQ.out]; exact hw7, HT6.out.trans ht7⟩


theorem AxI.full {a : AX} (h : AxI a) {p : Int} (hp : -1099511627776 ≤ p ∧ p ≤ 1099511627776) : AxI { a with sm := List.replicate a.win.toNat p } := by
 refine ⟨h.lr, h.win, h.hat, h.hom, ?_, rep_right h.win hp, h.safe, h.line, h.cw, h.ov, h.off, h.sta, h.mas⟩
 have := h.win
 show ((List.replicate a.win.toNat p).length : Int) = a.win
 rw [List.length_replicate]
 omega
theorem AxI.offs {a : AX} (h : AxI a) {o : Int} (ho : -288230376151711744 ≤ o ∧ o ≤ 288230376151711744) : AxI { a with off := o } := ⟨h.lr, h.win, h.hat, h.hom, h.len, h.smr, h.safe, h.line, h.cw, h.ov, ho, h.sta, h.mas⟩
theorem AxI.found {a : AX} (h : AxI a) (hs : safeB a.l a.g = true) : AxI { a with hd := true } := ⟨h.lr, h.win, h.hat, h.hom, h.len, h.smr, hs, h.line, h.cw, h.ov, h.off, h.sta, h.mas⟩
theorem hat_in {a : AX} (h : AxI a) : (bndX a).lo ≤ a.hat ∧ a.hat ≤ (bndX a).hi := by
 have h1 := rightB_yes h.lr
 have h2 := h.hat
 unfold bndX
 cases a.hd
 ·simp only [cond_false]
  omega
 ·exact h2

set_option maxRecDepth 100000 in
theorem ahomed_at (s : WS) (K : Nat) (rv : Value) (W : World) (h : WK W K s rv) (hv : s.a.g.v = 0) (hl : s.rs.length + 5 ≤ 2000) :
  Calls Tryz.prog 71 #[.pointer (some ⟨K, 0, none⟩)] W fun x w' => x = .returned (.tuple #[]) ∧ ∃ rv', WK w' K (homedX s) rv' ∧ Turn K rv rv' W w' := by
 obtain ⟨sv, nv, wv, cv, hp⟩ := h
 obtain ⟨m, hm⟩ : ∃ m : Nat, s.a.win = m := ⟨s.a.win.toNat, by have := hp.inv.win; omega⟩
 have hm16 : 1 ≤ m ∧ m ≤ 16 := by have := hp.inv.win; omega
 have HP := Lib.hid hp
 have HL := Lib.hid hl
 have HM := Lib.hid hm
 have HV := Lib.hid hv
 have hb1 := hp.inv.hat0
 have hb2 := hp.inv.pos
 have hb3 := hp.inv.off
 obtain ⟨dd, hdd⟩ : ∃ d, s.a.hat - s.a.g.p = d := ⟨_, rfl⟩
 have hw1 : IntKind.i64.wrap (s.a.hat - s.a.g.p) = s.a.hat - s.a.g.p := IntWalk.i64_in _ (by omega)
 obtain ⟨o, ho⟩ : ∃ o, s.a.off - dd = o := ⟨_, rfl⟩
 have hw2 : IntKind.i64.wrap (s.a.off - dd) = o := by rw [← ho]; exact IntWalk.i64_in _ (by omega)
 have c_hat := hp.cell 7 _ rfl
 have c_gp := hp.cell 10 _ rfl
 have lK := hp.lt
 have fK := hp.froz
 have HDD := Lib.hid hdd
 have HO := Lib.hid ho
 have HX : Hid (homedX s = if -288230376151711744 ≤ o ∧ o ≤ 288230376151711744 then doneX { s with a := { s.a with g := ⟨s.a.hat, s.a.g.v⟩, sm := List.replicate s.a.win.toNat s.a.hat, off := o, hd := true } } 4 else failsX s 5) := Lib.hid (by
  unfold homedX
  dsimp only
  rw [hdd, ho])
 clear hp hl hm hv hdd ho hb1 hb2 hb3
 by_cases hr : -288230376151711744 ≤ o ∧ o ≤ 288230376151711744
 ·obtain ⟨s5, hs5⟩ : ∃ x : WS, { s with a := { s.a with g := ⟨s.a.hat, s.a.g.v⟩, sm := List.replicate s.a.win.toNat s.a.hat, off := o, hd := true } } = x := ⟨_, rfl⟩
  have HEQ : Hid (homedX s = doneX s5 4) := Lib.hid (by rw [HX.out, if_pos hr, hs5])
  have HS5 := Lib.hid hs5
  have hr1 : ¬ o < -288230376151711744 := by omega
  have hr2 : ¬ 288230376151711744 < o := by omega
  have HRR := Lib.hid hr
  clear hs5 hr
  go_enter Tryz.func71, Tryz.ntmps71
  go_wp2_with fail
  refine wp_region_ext (by kernel_rfl) (by kernel_rfl) ?_
  repeat (go_big_quiet_step (fail))
  refine wpQuiet_nil ?_
  intro w1 hb1
  replace hb1 := ext_below hb1
  rw [HDD.out]
  have HP1 := Lib.hid (HP.out.below hb1)
  have HT1 : Hid (Turn K rv rv W w1) := Lib.hid (Turn.of_below hb1)
  have hp1 := HP1.out
  clear hb1 c_hat c_gp lK fK hw1
  have c_off := hp1.cell 13 _ rfl
  have c_hat := hp1.cell 7 _ rfl
  have c_gp := hp1.cell 10 _ rfl
  have lK := hp1.lt
  have fK := hp1.froz
  clear hp1
  go_upto_region 4 with (fail)
  refine wp_name fun W3 hW3 => ?_
  have hf := HP1.out.put0 [(10, .int .i64 s.a.hat)] { s with a := { s.a with g := ⟨s.a.hat, s.a.g.v⟩ } } rfl rfl rfl rfl rfl (by rw [HV.out]; exact HP.out.inv.stood (hat_in HP.out.inv)) rfl
  have HP3 : Hid (WKp W3 K { s with a := { s.a with g := ⟨s.a.hat, s.a.g.v⟩ } } rv sv nv wv cv ∧ Turn K rv rv w1 W3) := Lib.hid (by rw [hW3.out]; exact hf)
  have HT3 := Lib.hid (HT1.out.trans HP3.out.2)
  clear hf hW3 c_hat c_gp c_off lK fK
  have c6 : W3.cell? ⟨K, 6, none⟩ = some (.int .i64 (m : Int)) := HP3.out.1.cell 6 _ (by rw [← HM.out]; rfl)
  have c7 : W3.cell? ⟨K, 7, none⟩ = some (.int .i64 s.a.hat) := HP3.out.1.cell 7 _ rfl
  have lK := HP3.out.1.lt
  have fK := HP3.out.1.froz
  have HBD := Lib.hid ((Below.refl W3.heap.size W3).drew)
  have HPL : Hid (plB s.a.hat = true) := Lib.hid (plB_of HP.out.inv.hat0)
  have HM16 := Lib.hid hm16
  clear hm16
  go_region_held3 (fun w' => w'.cell? ⟨K, 6, none⟩ = some (.int .i64 (m : Int)) ∧ w'.cell? ⟨K, 7, none⟩ = some (.int .i64 s.a.hat)) (first | (refine ⟨?_, ?_⟩ <;> assumption) | (refine ⟨?_, ?_⟩ <;> (go_simp; done)) | go_keep)
   (first
    | (go_at_call 38; (with_reducible refine (sm_new_w s.a.hat m _ HM16.out HPL.out).mono ?_); rintro e w4 ⟨g, rfl, hg, hb4, hon⟩; have HP4 := Lib.hid (HP3.out.1.below (HBD.out.trans hb4)); have HB4 := Lib.hid (HBD.out.trans hb4); have HON := Lib.hid hon; have HG := Lib.hid hg; have d6 : w4.cell? ⟨K, 6, none⟩ = some (.int .i64 (m : Int)) := HP4.out.cell 6 _ (by rw [← HM.out]; rfl); have d7 : w4.cell? ⟨K, 7, none⟩ = some (.int .i64 s.a.hat) := HP4.out.cell 7 _ rfl; have d12 := HP4.out.cell 12 _ rfl; have df := HP4.out.froz; have dl := HP4.out.lt; clear hb4 hon hg))
  all_goals
   go_upto_region 5 with (fail)
   refine wp_name fun W5 hW5 => ?_
   have hsm : List.replicate s.a.win.toNat s.a.hat = List.replicate m s.a.hat := by rw [HM.out, Int.toNat_natCast]
   have hf := HP4.out.putN [(12, .slice (some ⟨g, 0, none⟩) m m)] { s with a := { s.a with g := ⟨s.a.hat, s.a.g.v⟩, sm := List.replicate s.a.win.toNat s.a.hat } } rfl (by show SmV w4 (List.replicate s.a.win.toNat s.a.hat) _; rw [hsm]; exact SmV.of_on HON.out (by simp)) HP4.out.ln (ApW.new_row HP3.out.1 HG.out _ _) HP4.out.a2 HP4.out.a3 rfl (HP4.out.inv.full HP.out.inv.hat0) rfl
   have HP5 : Hid (WKp W5 K { s with a := { s.a with g := ⟨s.a.hat, s.a.g.v⟩, sm := List.replicate s.a.win.toNat s.a.hat } } rv (.slice (some ⟨g, 0, none⟩) m m) nv wv cv ∧ Turn K rv rv w4 W5) := Lib.hid (by rw [hW5.out]; exact hf)
   have HT5 := Lib.hid (HT3.out.trans ((Turn.of_below HB4.out).trans HP5.out.2))
   have hp5 := HP5.out.1
   clear hf hW5 hsm d6 d7 d12 df dl c6 c7 lK fK
   have c_off := hp5.cell 13 _ rfl
   have c_hd := hp5.cell 16 _ rfl
   have lK := hp5.lt
   have fK := hp5.froz
   clear hp5
   go_upto_region 7 with (fail)
   refine wp_name fun W7 hW7 => ?_
   have hf := HP5.out.1.put0 [(13, .int .i64 o), (16, .bool true)] { s with a := { s.a with g := ⟨s.a.hat, s.a.g.v⟩, sm := List.replicate s.a.win.toNat s.a.hat, off := o, hd := true } } rfl rfl rfl rfl rfl ((HP5.out.1.inv.offs HRR.out).found (by show safeB s.a.l ⟨s.a.hat, s.a.g.v⟩ = true; rw [HV.out]; exact safe_stand HP.out.inv.lr HP.out.inv.hat)) rfl
   have HP7 : Hid (WKp W7 K s5 rv (.slice (some ⟨g, 0, none⟩) m m) nv wv cv ∧ Turn K rv rv W5 W7) := Lib.hid (by rw [hW7.out, ← HS5.out]; exact hf)
   have HT7 := Lib.hid (HT5.out.trans HP7.out.2)
   clear hf hW7 c_off c_hd lK fK
   go_wp2_with fail
   refine (adone_at s5 4 K rv _ ⟨_, _, _, _, HP7.out.1⟩ (by have := HL.out; rw [← HS5.out]; show s.rs.length + 2 ≤ 2000; omega)).mono ?_
   rintro e w8 ⟨rfl, rv8, hw8, ht8⟩
   go_wp2
   exact bodyPost_end (results_none rfl _ _ _) rfl ⟨rfl, rv8, by rw [HEQ.out]; exact hw8, HT7.out.trans ht8⟩
 ·have HEQ : Hid (homedX s = failsX s 5) := Lib.hid (by rw [HX.out, if_neg hr])
  clear hm16
  by_cases hr1 : o < -288230376151711744
  ·clear hr
   go_enter Tryz.func71, Tryz.ntmps71
   go_wp2_with fail
   refine wp_region_ext (by kernel_rfl) (by kernel_rfl) ?_
   repeat (go_big_quiet_step (fail))
   refine wpQuiet_nil ?_
   intro w1 hb1
   replace hb1 := ext_below hb1
   rw [HDD.out]
   have HP1 := Lib.hid (HP.out.below hb1)
   have HT1 : Hid (Turn K rv rv W w1) := Lib.hid (Turn.of_below hb1)
   have hp1 := HP1.out
   clear hb1 c_hat c_gp lK fK hw1
   have c_off := hp1.cell 13 _ rfl
   have lK := hp1.lt
   have fK := hp1.froz
   clear hp1
   go_wp2_with fail
   refine (afails_at s 5 K rv _ ⟨_, _, _, _, HP1.out⟩ HL.out).mono ?_
   rintro e w8 ⟨rfl, rv8, hw8, ht8⟩
   go_wp2
   exact bodyPost_ret (results_none rfl _ _ _) rfl ⟨rfl, rv8, by rw [HEQ.out]; exact hw8, HT1.out.trans ht8⟩
  ·have hr2 : 288230376151711744 < o := by omega
   clear hr
   go_enter Tryz.func71, Tryz.ntmps71
   go_wp2_with fail
   refine wp_region_ext (by kernel_rfl) (by kernel_rfl) ?_
   repeat (go_big_quiet_step (fail))
   refine wpQuiet_nil ?_
   intro w1 hb1
   replace hb1 := ext_below hb1
   rw [HDD.out]
   have HP1 := Lib.hid (HP.out.below hb1)
   have HT1 : Hid (Turn K rv rv W w1) := Lib.hid (Turn.of_below hb1)
   have hp1 := HP1.out
   clear hb1 c_hat c_gp lK fK hw1
   have c_off := hp1.cell 13 _ rfl
   have lK := hp1.lt
   have fK := hp1.froz
   clear hp1
   go_wp2_with fail
   refine (afails_at s 5 K rv _ ⟨_, _, _, _, HP1.out⟩ HL.out).mono ?_
   rintro e w8 ⟨rfl, rv8, hw8, ht8⟩
   go_wp2
   exact bodyPost_ret (results_none rfl _ _ _) rfl ⟨rfl, rv8, by rw [HEQ.out]; exact hw8, HT1.out.trans ht8⟩


theorem ax_size : (Tryz.prog.info? 35).map (·.size) = some 26 := by kernel_rfl
structure AxL (a : AX) (sv nv wv : Value) (L : List Value) : Prop where
 eq : L = axC a sv nv wv
theorem AxL.size {a : AX} {sv nv wv : Value} {L : List Value} (h : AxL a sv nv wv L) : (Tryz.prog.info? 35).map (·.size) = some L.length := by
 rw [ax_size, h.eq]
 rfl
theorem axL_some (a : AX) (sv nv wv : Value) : ∃ L, AxL a sv nv wv L := ⟨_, ⟨rfl⟩⟩
theorem WKp.range {W : World} {K : Nat} {s : WS} {rv sv nv wv cv : Value} {L : List Value} (h : WKp W K s rv sv nv wv cv) (hL : AxL s.a sv nv wv L) : W.rangeAt K 0 L := by
 intro j v hv
 rw [Nat.zero_add]
 rw [hL.eq] at hv
 refine h.cell j v ?_
 have hj : j < (axC s.a sv nv wv).length := (List.getElem?_eq_some_iff.1 hv).1
 unfold wkC
 rw [List.append_assoc, List.getElem?_append_left hj]
 exact hv
theorem SmV.one4 {w : World} {zs : List Int} {v : Value} (h : SmV w zs v) : v.oneCell' = true := by
 obtain ⟨A, c, rfl, -⟩ := h
 rfl
theorem LineV.one4 {w : World} {base : Nat} {ns ws : List CmdS} {nv wv : Value} (h : LineV w base ns ws (.agg #[nv, wv])) : nv.oneCell' = true ∧ wv.oneCell' = true := by
 obtain ⟨⟨A, c, rfl, -⟩, ⟨D, d, rfl, -⟩⟩ := LineV.parts h
 exact ⟨rfl, rfl⟩
theorem axC_one {a : AX} {sv nv wv : Value} {L : List Value} (hL : AxL a sv nv wv L) (h1 : sv.oneCell' = true) (h2 : nv.oneCell' = true) (h3 : wv.oneCell' = true) : L.toArray.all (·.oneCell') = true := by
 rw [hL.eq]
 unfold Value.oneCell' at h1 h2 h3
 simp [axC, Value.oneCell']
 exact ⟨h1, h2, h3⟩
theorem WKp.one {W : World} {K : Nat} {s : WS} {rv sv nv wv cv : Value} {L : List Value} (h : WKp W K s rv sv nv wv cv) (hL : AxL s.a sv nv wv L) : L.toArray.all (·.oneCell') = true :=
 axC_one hL h.sm.one4 (LineV.one4 h.ln).1 (LineV.one4 h.ln).2
theorem in_size : (Tryz.prog.info? 44).map (·.size) = some 12 := by kernel_rfl
structure InL (i : INS) (cv : Value) (L : List Value) : Prop where
 eq : L = inC i cv
theorem InL.size {i : INS} {cv : Value} {L : List Value} (h : InL i cv L) : (Tryz.prog.info? 44).map (·.size) = some L.length := by
 rw [in_size, h.eq]
 rfl
theorem inL_some (i : INS) (cv : Value) : ∃ L, InL i cv L := ⟨_, ⟨rfl⟩⟩
theorem InL.one {i : INS} {cv : Value} {L : List Value} (h : InL i cv L) (h1 : cv.oneCell' = true) : L.toArray.all (·.oneCell') = true := by
 rw [h.eq]
 unfold Value.oneCell' at h1
 simp [inC, Value.oneCell']
 exact h1
theorem WKp.rangeI {W : World} {K : Nat} {s : WS} {rv sv nv wv cv : Value} {L : List Value} (h : WKp W K s rv sv nv wv cv) (hL : InL s.i cv L) : W.rangeAt K 26 L := by
 intro j v hv
 rw [hL.eq] at hv
 refine h.cell (26 + j) v ?_
 have hj : j < (inC s.i cv).length := (List.getElem?_eq_some_iff.1 hv).1
 have h12 : (inC s.i cv).length = 12 := rfl
 have h26 : (axC s.a sv nv wv).length = 26 := rfl
 unfold wkC
 rw [List.append_assoc, List.getElem?_append_right (by omega), List.getElem?_append_left (by omega), show 26 + j - (axC s.a sv nv wv).length = j by omega]
 exact hv
theorem astill_L (a : AX) (sv nv wv : Value) (L : List Value) (r : Bool) (w : World) (hL : AxL a sv nv wv L) (hs : SmV w a.sm sv) (hn : 0 < a.sm.length) (hr : stillX a = r) :
  Calls Tryz.prog 60 #[.agg L.toArray] w fun e w' => e = .returned (.bool r) ∧ Below w.heap.size w w' := by
 rw [hL.eq]
 exact astill_at a sv nv wv r w hs hn hr
theorem abounds_L (a : AX) (sv nv wv : Value) (L : List Value) (b : LimS) (w : World) (hL : AxL a sv nv wv L) (hb : bndX a = b) :
  Calls Tryz.prog 20 #[.agg L.toArray] w fun e w' => e = .returned (.agg #[.int .i64 b.v, .int .i64 b.a, .int .i64 b.d, .int .i64 b.lo, .int .i64 b.hi]) ∧ Below w.heap.size w w' := by
 rw [hL.eq]
 exact abounds_at a sv nv wv b w hb

theorem wpList_load_midG {P : Program} {ops : Array Oper} {rest : List Oper} {op : Oper} {a : Act} {w : World} {Q : Exit → Act → World → Prop} (ty : TypeId) (x : Operand) (ho : op.op = .load ty x)
  (b o : Nat) (hx : a.eval x = .pointer (some ⟨b, o, none⟩)) (cs : List Value) (d : TypeDesc) (hc : w.rangeAt b o cs)
  (hu : P.underlying ty = some d) (hd : d.isRow = true) (hi : (P.info? ty).map (·.size) = some cs.length) (hw : Region.wanted op (yielded ops a.tmps) = true)
  (h : wpList P ops Q rest (a.put op.dst (.agg cs.toArray)) w) : wpList P ops Q (op :: rest) a w :=
 wpList_step fun K hK => by
  rw [if_pos hw]
  exact wp_load_mid ty x ho b o hx cs d hc hu hd hi (hK _ _ h)

section
variable {P : Program} {md : Region.Mode} {l : List Oper} {Q : Exit → Act → World → Prop} {S : World → Prop} {fuel : Nat} {listed : Array Bool} {a : Act} {w : World} {i j : Nat} {o p : Oper}
theorem twoX (hr : Region.ready md l.toArray listed = [i, j]) (ho : l[i]? = some o) (hp : l[j]? = some p)
  (h1 : ∀ K' : Act → World → Prop, Shut (∀ a w, S w → (S w → wpAnyH P md l.toArray Q S fuel (listed.setIfInBounds i true) a w) → K' a w) → if Region.wanted o (yielded l.toArray a.tmps) = true then Oper.wp P o a w K' Q else K' (a.put o.dst undef) w)
  (h2 : ∀ K' : Act → World → Prop, Shut (∀ a w, S w → (S w → wpAnyH P md l.toArray Q S fuel (listed.setIfInBounds j true) a w) → K' a w) → if Region.wanted p (yielded l.toArray a.tmps) = true then Oper.wp P p a w K' Q else K' (a.put p.dst undef) w) :
  wpAnyH P md l.toArray Q S (fuel + 1) listed a w :=
 wpAnyH_ready hr (by simp) (AllReadyH.cons (by simpa using ho) h1 (AllReadyH.cons (by simpa using hp) h2 AllReadyH.nil))
theorem oneRow (hr : Region.ready md l.toArray listed = [i]) (ho : l[i]? = some o) (hw : Region.wanted o (yielded l.toArray a.tmps) = true) (ty : TypeId) (x y : Operand) (hop : o.op = .store ty x y)
  (g : Nat) (cells : Array Value) (hx : a.eval x = .pointer (some ⟨g, 0, none⟩)) (hy : a.eval y = .agg cells)
  (t : TypeId) (old : Array Value) (hg : w.heap[g]? = some (.cells old t (0, 0))) (hi : (P.info? ty).map (·.size) = some cells.size)
  (hold : old.size = cells.size) (h1 : cells.all (·.oneCell') = true) (hS : S (w.setRow g cells))
  (h : wpAnyH P md l.toArray Q S fuel (listed.setIfInBounds i true) (a.put o.dst undef) (w.setRow g cells)) : wpAnyH P md l.toArray Q S (fuel + 1) listed a w :=
 oneH hr ho fun K' hK => by
  rw [if_pos hw]
  exact wp_store_row ty x y hop g cells hx hy t old hg hi hold h1 (hK.out _ _ hS fun _ => h)
end

end Go.Proofs.YthhfnageadckkaaGreat
