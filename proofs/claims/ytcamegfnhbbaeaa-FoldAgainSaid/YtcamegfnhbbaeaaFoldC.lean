/- Contracts of layer 21, the reference: an operation's result. -/
import Derived.Test.YtcamegfnhbbaeaaFoldB
namespace Go.Proofs.Ytcamegfnhbbaeaa
open Go.RowKit
set_option linter.unusedVariables false
set_option linter.unusedSimpArgs false
attribute [local go_sem] ite_max ite_min vite_max vite_min ext_cell ext_frozen

theorem badT_yes {z : Int} (h : badT z = true) : z < 0 ∨ 1 < z := by
  unfold badT at h
  have h2 : ¬ z = 0 ∧ ¬ z = 1 := by simpa using h
  omega

theorem idx6_0 (x0 x1 x2 x3 x4 x5 : Value) (w : World) : (Instr.index 46 (.agg #[x0, x1, x2, x3, x4, x5]) (.int .i64 0)).run Try.prog w = .ok x0 w := by kernel_rfl
theorem idx6_1 (x0 x1 x2 x3 x4 x5 : Value) (w : World) : (Instr.index 46 (.agg #[x0, x1, x2, x3, x4, x5]) (.int .i64 1)).run Try.prog w = .ok x1 w := by kernel_rfl
theorem idx6_2 (x0 x1 x2 x3 x4 x5 : Value) (w : World) : (Instr.index 46 (.agg #[x0, x1, x2, x3, x4, x5]) (.int .i64 2)).run Try.prog w = .ok x2 w := by kernel_rfl
theorem idx6_3 (x0 x1 x2 x3 x4 x5 : Value) (w : World) : (Instr.index 46 (.agg #[x0, x1, x2, x3, x4, x5]) (.int .i64 3)).run Try.prog w = .ok x3 w := by kernel_rfl
theorem idx6_4 (x0 x1 x2 x3 x4 x5 : Value) (w : World) : (Instr.index 46 (.agg #[x0, x1, x2, x3, x4, x5]) (.int .i64 4)).run Try.prog w = .ok x4 w := by kernel_rfl
theorem idx6_5 (x0 x1 x2 x3 x4 x5 : Value) (w : World) : (Instr.index 46 (.agg #[x0, x1, x2, x3, x4, x5]) (.int .i64 5)).run Try.prog w = .ok x5 w := by kernel_rfl

set_option maxRecDepth 100000 in
set_option maxHeartbeats 4000000 in
theorem rop_any (op : Int) (zs : List Int) (tr : Bool) (A : Option Addr) (n c : Nat) (w : World) (h : Lies w w.heap.size 1 A n (intsF zs)) (hn : n ≤ c) (hc : c ≤ 9223372036854775807) (hz : ∀ z ∈ zs, -9223372036854775808 ≤ z ∧ z ≤ 9223372036854775807) :
    Calls Try.prog 8 #[.int .i64 op, .slice A n c, .bool tr] w fun e w' => e = .returned (opV (opF op zs tr)) ∧ Below w.heap.size w w' := by
  have HX := Lib.hid h
  have HL := Lib.hid h.numsF
  have HZ := Lib.hid hz
  obtain ⟨R, hR⟩ : ∃ R, opF op zs tr = R := ⟨_, rfl⟩
  rw [hR]
  have HR := Lib.hid hR
  clear h hz hR
  go_enter Try.func8, Try.ntmps8
  go_wp2_with fail
  go_loopw [9] (fun u wr => ∃ k : Nat, k ≤ n ∧ u = .int .i64 k ∧ Hid (tr = true → ∀ i z, i < k → zs[i]? = some z → badT z = false) ∧ wr = w) (fun u _ => n - (intOf u).toNat)
  case atStart => exact ⟨0, by omega, rfl, Lib.hid (fun _ i z hi => absurd hi (by omega)), rfl⟩
  case round =>
    obtain ⟨k, hk, rfl, HK, rfl⟩ := hrel
    by_cases hlt : k < n
    · obtain ⟨b, off, x, rfl, hb, hxk, hcell⟩ := HX.out.numF k hlt
      have hk0 : (0 : Int) ≤ (k : Int) := by omega
      have hkn : (k : Int) < (n : Int) := by omega
      have HXK := Lib.hid hxk
      cases tr
      · clear hxk
        go_wp2
        go_roundw
        case rel => exact ⟨k + 1, by omega, by go_num, Lib.hid (fun h => by cases h), trivial⟩
        case measure => simp [intOf]; omega
      · cases hbd : badT x
        · have hx2 := badT_no hbd
          have HNX : Hid (∀ i z, i < k + 1 → zs[i]? = some z → badT z = false) := Lib.hid (fun i z hi hz => by
            rcases Nat.lt_or_ge i k with h1 | h1
            · exact HK.out rfl i z h1 hz
            · obtain rfl : i = k := by omega
              rw [HXK.out] at hz
              obtain rfl := Option.some.inj hz
              exact hbd)
          clear hxk hbd
          rcases hx2 with rfl | rfl
          · go_wp2
            go_roundw
            case rel => exact ⟨k + 1, by omega, by go_num, Lib.hid (fun _ => HNX.out), trivial⟩
            case measure => simp [intOf]; omega
          · go_wp2
            go_roundw
            case rel => exact ⟨k + 1, by omega, by go_num, Lib.hid (fun _ => HNX.out), trivial⟩
            case measure => simp [intOf]; omega
        · have hr : R = (0, false, -1) := by rw [← HR.out]; exact opF_bad hxk hbd
          subst hr
          have hx0 := badT_yes hbd
          clear hxk hbd HR
          rcases hx0 with hx0 | hx0
          · go_wp2
            go_ret3
            exact ⟨rfl, Below.refl _ _⟩
          · have hx1 : (0 : Int) ≤ x := by omega
            go_wp2
            go_ret3
            exact ⟨rfl, Below.refl _ _⟩
    · obtain rfl : n = k := by omega
      clear hlt hk
      rcases (show n = 1 ∨ n = 2 ∨ (n ≠ 1 ∧ n ≠ 2) by omega) with h1 | h1 | ⟨h1, h2⟩
      · subst h1
        obtain ⟨b, off, a, rfl, hb, hxk, hcell⟩ := HX.out.numF 0 (by omega)
        obtain rfl : zs = [a] := by
          have := HL.out
          match zs, this with
          | [y], _ => simpa using hxk
        have hg : tr = true → badT a = false := fun h => HK.out h 0 a (by omega) hxk
        have ha := HZ.out a (by simp)
        have hr : R = op1 op a tr := by rw [← HR.out]; exact opF_one hg
        simp only [Nat.add_zero] at hcell
        clear hxk HR HZ HK HL HX
        cases tr
        · by_cases h6 : op = 6
          · subst h6
            have hs := fun w => rsub_at 0 a (0 - a) w (by omega) ha rfl
            have e1 : op1 6 a false = (fitV (0 - a), false, bif fitB (0 - a) then 0 else 2) := by unfold op1; rw [if_pos ⟨rfl, rfl⟩]
            rw [e1] at hr
            cases hf : fitB (0 - a)
            · rw [hf, fitV_no0 hf] at hs
              rw [hf, fitV_no0 hf] at hr
              simp only [cond_false] at hr
              subst hr
              have HS := Lib.hid hs
              clear hs hf e1 hg
              go_wp2_with fail
              refine (HS.out _).mono ?_
              rintro e w1 ⟨rfl, hb1⟩
              go_wp2
              go_ret3
              exact ⟨rfl, hb1⟩
            · rw [hf] at hs hr
              simp only [cond_true] at hr
              generalize fitV (0 - a) = x at *
              subst hr
              have HS := Lib.hid hs
              clear hs hf e1 hg
              go_wp2_with fail
              refine (HS.out _).mono ?_
              rintro e w1 ⟨rfl, hb1⟩
              go_wp2
              go_ret3
              exact ⟨rfl, hb1⟩
          · have q6 : (op == 6) = false := by simpa using h6
            have q6b : (op != 6) = true := by simpa using h6
            have e1 : R = (0, false, -1) := by rw [hr]; unfold op1; simp [h6]
            clear hr
            subst e1
            clear hg h6
            go_wp2
            go_ret3
            exact ⟨rfl, Below.refl _ _⟩
        · by_cases h7 : op = 7
          · subst h7
            rcases badT_no (hg rfl) with rfl | rfl
            · subst hr
              clear hg
              go_wp2_with (first | (go_at_call 20; refine (rone_any _ _).mono ?_; rintro e w' ⟨rfl, rfl⟩))
              go_ret3
              exact ⟨rfl, Below.refl _ _⟩
            · subst hr
              clear hg
              go_wp2_with (first | (go_at_call 20; refine (rone_any _ _).mono ?_; rintro e w' ⟨rfl, rfl⟩))
              go_ret3
              exact ⟨rfl, Below.refl _ _⟩
          · have q7 : (op == 7) = false := by simpa using h7
            have e1 : R = (0, false, -1) := by rw [hr]; unfold op1; simp [h7]
            clear hr
            subst e1
            clear hg h7
            go_wp2
            go_ret3
            exact ⟨rfl, Below.refl _ _⟩
      · subst h1
        obtain ⟨b, off, a, rfl, hb, hxk, hcell⟩ := HX.out.numF 0 (by omega)
        obtain ⟨b', off', a', e', hb', hxk', hcell'⟩ := HX.out.numF 1 (by omega)
        injection e' with e'
        injection e' with e1 e2
        subst e1 e2
        obtain rfl : zs = [a, a'] := by
          have := HL.out
          match zs, this with
          | [y, z], _ => simp at hxk hxk'; rw [hxk, hxk']
        have ha := HZ.out a (by simp)
        have ha' := HZ.out a' (by simp)
        simp only [Nat.add_zero] at hcell
        cases tr
        · have hall := opF_two (op := op) (a := a) (b := a')
          rw [HR.out] at hall
          rcases (show op = 8 ∨ op = 9 ∨ op = 10 ∨ op = 11 ∨ op = 12 ∨ (13 ≤ op ∧ op ≤ 18) ∨ op < 8 ∨ 21 < op ∨ (19 ≤ op ∧ op ≤ 21) by omega) with rfl | rfl | rfl | rfl | rfl | ho | ho | ho | ho
          · have hs := fun w => radd_at a a' (a + a') w ha ha' rfl
            have hr : R = (fitV (a + a'), false, bif fitB (a + a') then 0 else 2) := by rw [← HR.out]; rfl
            cases hf : fitB (a + a')
            · rw [hf, fitV_no0 hf] at hs
              rw [hf, fitV_no0 hf] at hr
              simp only [cond_false] at hr
              subst hr
              have HS := Lib.hid hs
              clear hs hf HR HZ HK HL HX hxk hxk' ha ha'
              go_wp2_with fail
              go_quiet (fail)
              go_wp2_with fail
              refine (HS.out _).mono ?_
              rintro e w1 ⟨rfl, hb1⟩
              go_wp2
              go_ret3
              exact ⟨rfl, by (repeat' (first | (with_reducible exact Below.refl _ _) | (with_reducible assumption) | (with_reducible refine below_drewN ?_ _) | (with_reducible refine Below.drew ?_) | (with_reducible refine below_new ?_ (Nat.le_refl _) _) | (with_reducible refine Below.setCell ?_ ?_ _) | (with_reducible refine below_go ?_ (by assumption) (Nat.le_refl _)) | (simp; done) | (simp; omega) | omega))⟩
            · rw [hf] at hs hr
              simp only [cond_true] at hr
              obtain ⟨x, hx⟩ : ∃ x, fitV (a + a') = x := ⟨_, rfl⟩
              rw [hx] at hs hr
              subst hr
              have HS := Lib.hid hs
              clear hs hf hx HR HZ HK HL HX hxk hxk' ha ha'
              go_wp2_with fail
              go_quiet (fail)
              go_wp2_with fail
              refine (HS.out _).mono ?_
              rintro e w1 ⟨rfl, hb1⟩
              go_wp2
              go_ret3
              exact ⟨rfl, by (repeat' (first | (with_reducible exact Below.refl _ _) | (with_reducible assumption) | (with_reducible refine below_drewN ?_ _) | (with_reducible refine Below.drew ?_) | (with_reducible refine below_new ?_ (Nat.le_refl _) _) | (with_reducible refine Below.setCell ?_ ?_ _) | (with_reducible refine below_go ?_ (by assumption) (Nat.le_refl _)) | (simp; done) | (simp; omega) | omega))⟩
          · have hs := fun w => rsub_at a a' (a - a') w ha ha' rfl
            have hr : R = (fitV (a - a'), false, bif fitB (a - a') then 0 else 2) := by rw [← HR.out]; rfl
            cases hf : fitB (a - a')
            · rw [hf, fitV_no0 hf] at hs
              rw [hf, fitV_no0 hf] at hr
              simp only [cond_false] at hr
              subst hr
              have HS := Lib.hid hs
              clear hs hf HR HZ HK HL HX hxk hxk' ha ha'
              go_wp2_with fail
              go_quiet (fail)
              go_wp2_with fail
              refine (HS.out _).mono ?_
              rintro e w1 ⟨rfl, hb1⟩
              go_wp2
              go_ret3
              exact ⟨rfl, by (repeat' (first | (with_reducible exact Below.refl _ _) | (with_reducible assumption) | (with_reducible refine below_drewN ?_ _) | (with_reducible refine Below.drew ?_) | (with_reducible refine below_new ?_ (Nat.le_refl _) _) | (with_reducible refine Below.setCell ?_ ?_ _) | (with_reducible refine below_go ?_ (by assumption) (Nat.le_refl _)) | (simp; done) | (simp; omega) | omega))⟩
            · rw [hf] at hs hr
              simp only [cond_true] at hr
              obtain ⟨x, hx⟩ : ∃ x, fitV (a - a') = x := ⟨_, rfl⟩
              rw [hx] at hs hr
              subst hr
              have HS := Lib.hid hs
              clear hs hf hx HR HZ HK HL HX hxk hxk' ha ha'
              go_wp2_with fail
              go_quiet (fail)
              go_wp2_with fail
              refine (HS.out _).mono ?_
              rintro e w1 ⟨rfl, hb1⟩
              go_wp2
              go_ret3
              exact ⟨rfl, by (repeat' (first | (with_reducible exact Below.refl _ _) | (with_reducible assumption) | (with_reducible refine below_drewN ?_ _) | (with_reducible refine Below.drew ?_) | (with_reducible refine below_new ?_ (Nat.le_refl _) _) | (with_reducible refine Below.setCell ?_ ?_ _) | (with_reducible refine below_go ?_ (by assumption) (Nat.le_refl _)) | (simp; done) | (simp; omega) | omega))⟩
          · have hs := fun w => rmul_at a a' w ha ha'
            have hr : R = (fitV (a * a'), false, bif fitB (a * a') then 0 else 2) := by rw [← HR.out]; rfl
            cases hf : fitB (a * a')
            · rw [hf, fitV_no0 hf] at hs
              rw [hf, fitV_no0 hf] at hr
              simp only [cond_false] at hr
              subst hr
              have HS := Lib.hid hs
              clear hs hf HR HZ HK HL HX hxk hxk' ha ha'
              go_wp2_with fail
              go_quiet (fail)
              go_wp2_with fail
              refine (HS.out _).mono ?_
              rintro e w1 ⟨rfl, hb1⟩
              go_wp2
              go_ret3
              exact ⟨rfl, by (repeat' (first | (with_reducible exact Below.refl _ _) | (with_reducible assumption) | (with_reducible refine below_drewN ?_ _) | (with_reducible refine Below.drew ?_) | (with_reducible refine below_new ?_ (Nat.le_refl _) _) | (with_reducible refine Below.setCell ?_ ?_ _) | (with_reducible refine below_go ?_ (by assumption) (Nat.le_refl _)) | (simp; done) | (simp; omega) | omega))⟩
            · rw [hf] at hs hr
              simp only [cond_true] at hr
              obtain ⟨x, hx⟩ : ∃ x, fitV (a * a') = x := ⟨_, rfl⟩
              rw [hx] at hs hr
              subst hr
              have HS := Lib.hid hs
              clear hs hf hx HR HZ HK HL HX hxk hxk' ha ha'
              go_wp2_with fail
              go_quiet (fail)
              go_wp2_with fail
              refine (HS.out _).mono ?_
              rintro e w1 ⟨rfl, hb1⟩
              go_wp2
              go_ret3
              exact ⟨rfl, by (repeat' (first | (with_reducible exact Below.refl _ _) | (with_reducible assumption) | (with_reducible refine below_drewN ?_ _) | (with_reducible refine Below.drew ?_) | (with_reducible refine below_new ?_ (Nat.le_refl _) _) | (with_reducible refine Below.setCell ?_ ?_ _) | (with_reducible refine below_go ?_ (by assumption) (Nat.le_refl _)) | (simp; done) | (simp; omega) | omega))⟩
          · have hs := fun w => rdiv_at a a' w ha ha'
            have hr : R = (divV a a', false, fltE (divE a a')) := by rw [← HR.out]; rfl
            have hzz := divE_cases a a'
            obtain ⟨x, hx⟩ : ∃ x, divV a a' = x := ⟨_, rfl⟩
            obtain ⟨y, hy⟩ : ∃ y, divE a a' = y := ⟨_, rfl⟩
            rw [hx, hy] at hs hr hzz
            clear hx hy HR HZ HK HL HX hxk hxk' ha ha'
            rcases hzz with rfl | ⟨rfl, rfl⟩ | ⟨rfl, rfl⟩
            all_goals
              subst hr
              have HS := Lib.hid hs
              clear hs
              go_wp2_with fail
              go_quiet (fail)
              go_wp2_with fail
              refine (HS.out _).mono ?_
              rintro e w1 ⟨rfl, hb1⟩
              go_wp2
              go_ret3
              exact ⟨rfl, by (repeat' (first | (with_reducible exact Below.refl _ _) | (with_reducible assumption) | (with_reducible refine below_drewN ?_ _) | (with_reducible refine Below.drew ?_) | (with_reducible refine below_new ?_ (Nat.le_refl _) _) | (with_reducible refine Below.setCell ?_ ?_ _) | (with_reducible refine below_go ?_ (by assumption) (Nat.le_refl _)) | (simp; done) | (simp; omega) | omega))⟩
          · have hs := fun w => rmod_at a a' w ha ha'
            have hr : R = (modV a a', false, fltE (modE a')) := by rw [← HR.out]; rfl
            have hzz := modE_cases a a'
            obtain ⟨x, hx⟩ : ∃ x, modV a a' = x := ⟨_, rfl⟩
            obtain ⟨y, hy⟩ : ∃ y, modE a' = y := ⟨_, rfl⟩
            rw [hx, hy] at hs hr hzz
            clear hx hy HR HZ HK HL HX hxk hxk' ha ha'
            rcases hzz with rfl | ⟨rfl, rfl⟩ | ⟨rfl, rfl⟩
            all_goals
              subst hr
              have HS := Lib.hid hs
              clear hs
              go_wp2_with fail
              go_quiet (fail)
              go_wp2_with fail
              refine (HS.out _).mono ?_
              rintro e w1 ⟨rfl, hb1⟩
              go_wp2
              go_ret3
              exact ⟨rfl, by (repeat' (first | (with_reducible exact Below.refl _ _) | (with_reducible assumption) | (with_reducible refine below_drewN ?_ _) | (with_reducible refine Below.drew ?_) | (with_reducible refine below_new ?_ (Nat.le_refl _) _) | (with_reducible refine Below.setCell ?_ ?_ _) | (with_reducible refine below_go ?_ (by assumption) (Nat.le_refl _)) | (simp; done) | (simp; omega) | omega))⟩
          · have hr : R = opC op a a' := by rw [hall, if_neg (by omega), if_pos ho]
            clear hall HR HZ HK HL HX hxk hxk' ha ha'
            subst hr
            rcases (by omega : op = 13 ∨ op = 14 ∨ op = 15 ∨ op = 16 ∨ op = 17 ∨ op = 18) with rfl | rfl | rfl | rfl | rfl | rfl
            all_goals
              have ix0 := idx6_0
              have ix1 := idx6_1
              have ix2 := idx6_2
              have ix3 := idx6_3
              have ix4 := idx6_4
              have ix5 := idx6_5
              clear ho
              go_wp2_with fail
              go_quiet (fail)
              go_wp2_with (first | (go_at_call 20; refine (rone_any _ _).mono ?_; rintro e w' ⟨rfl, rfl⟩))
              go_ret3
              exact ⟨rfl, by (repeat' (first | (with_reducible exact Below.refl _ _) | (with_reducible assumption) | (with_reducible refine below_drewN ?_ _) | (with_reducible refine Below.drew ?_) | (with_reducible refine below_new ?_ (Nat.le_refl _) _) | (with_reducible refine Below.setCell ?_ ?_ _) | (with_reducible refine below_go ?_ (by assumption) (Nat.le_refl _)) | (simp; done) | (simp; omega) | omega))⟩
          · have hr : R = (0, false, -1) := by rw [hall, if_neg (by omega), if_neg (by omega)]
            clear hall HR HZ HK HL HX hxk hxk' ha ha'
            subst hr
            go_wp2
            go_ret3
            exact ⟨rfl, Below.refl _ _⟩
          · have hr : R = (0, false, -1) := by rw [hall, if_neg (by omega), if_neg (by omega)]
            clear hall HR HZ HK HL HX hxk hxk' ha ha'
            subst hr
            have ho2 : 8 ≤ op := by omega
            go_wp2
            go_ret3
            exact ⟨rfl, Below.refl _ _⟩
          · have hr : R = (0, false, -1) := by rw [hall, if_neg (by omega), if_neg (by omega)]
            clear hall HR HZ HK HL HX hxk hxk' ha ha'
            subst hr
            obtain ⟨ho1, ho2⟩ := ho
            have ho3 : 8 ≤ op := by omega
            have ho4 : 18 < op := by omega
            go_wp2_with fail
            go_quiet (fail)
            go_wp2
            go_ret3
            exact ⟨rfl, by (repeat' (first | (with_reducible exact Below.refl _ _) | (with_reducible assumption) | (with_reducible refine below_drewN ?_ _) | (with_reducible refine Below.drew ?_) | (with_reducible refine below_new ?_ (Nat.le_refl _) _) | (with_reducible refine Below.setCell ?_ ?_ _) | (with_reducible refine below_go ?_ (by assumption) (Nat.le_refl _)) | (simp; done) | (simp; omega) | omega))⟩
        · have hg := HK.out rfl 0 a (by omega) hxk
          have hg' := HK.out rfl 1 a' (by omega) hxk'
          have hr : R = opT op a a' := by rw [← HR.out]; exact opF_twoT hg hg'
          clear HR HZ HK HL HX hxk hxk' ha ha'
          by_cases hc5 : op = 13 ∨ op = 14 ∨ op = 19 ∨ op = 20 ∨ op = 21
          · rcases hc5 with rfl | rfl | rfl | rfl | rfl
            all_goals rcases badT_no hg with rfl | rfl
            all_goals rcases badT_no hg' with rfl | rfl
            all_goals
              subst hr
              clear hg hg'
              go_wp2_with fail
              go_quiet (fail)
              go_wp2_with (first | (go_at_call 20; refine (rone_any _ _).mono ?_; rintro e w' ⟨rfl, rfl⟩))
              go_ret3
              exact ⟨rfl, by (repeat' (first | (with_reducible exact Below.refl _ _) | (with_reducible assumption) | (with_reducible refine below_drewN ?_ _) | (with_reducible refine Below.drew ?_) | (with_reducible refine below_new ?_ (Nat.le_refl _) _) | (with_reducible refine Below.setCell ?_ ?_ _) | (with_reducible refine below_go ?_ (by assumption) (Nat.le_refl _)) | (simp; done) | (simp; omega) | omega))⟩
          · rw [opT_other op a a' (by omega)] at hr
            subst hr
            have q1 : (op == 13) = false := by simp; omega
            have q2 : (op == 14) = false := by simp; omega
            have q3 : (op == 19) = false := by simp; omega
            have q4 : (op == 20) = false := by simp; omega
            have q5 : (op == 21) = false := by simp; omega
            clear hg hg' hc5
            rcases (show op < 8 ∨ 21 < op ∨ (8 ≤ op ∧ op ≤ 21) by omega) with ho | ho | ⟨ho1, ho2⟩
            · go_wp2
              go_ret3
              exact ⟨rfl, Below.refl _ _⟩
            · have ho2 : 8 ≤ op := by omega
              go_wp2
              go_ret3
              exact ⟨rfl, Below.refl _ _⟩
            · go_wp2_with fail
              go_quiet (fail)
              go_wp2
              go_ret3
              exact ⟨rfl, by (repeat' (first | (with_reducible exact Below.refl _ _) | (with_reducible assumption) | (with_reducible refine below_drewN ?_ _) | (with_reducible refine Below.drew ?_) | (with_reducible refine below_new ?_ (Nat.le_refl _) _) | (with_reducible refine Below.setCell ?_ ?_ _) | (with_reducible refine below_go ?_ (by assumption) (Nat.le_refl _)) | (simp; done) | (simp; omega) | omega))⟩
      · have hr : R = (0, false, -1) := by rw [← HR.out]; exact opF_else (by rw [HL.out]; exact h1) (by rw [HL.out]; exact h2)
        subst hr
        have q1 : ((n : Int) == 1) = false := by simp; omega
        have q2 : ((n : Int) == 2) = false := by simp; omega
        have q3 : ((n : Int) != 2) = true := by simp; omega
        clear HR HZ HK HL HX
        go_wp2
        go_ret3
        exact ⟨rfl, Below.refl _ _⟩

end Go.Proofs.Ytcamegfnhbbaeaa
