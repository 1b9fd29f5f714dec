/- Layer 13: HomeEnds. -/
import Derived.Test.YtddakmlnkffgiaaHomeJ
import Derived.Deep.DeepCutAuto
namespace Go.Proofs.Ytddakmlnkffgiaa
open Go.ChangeShapes Go.WideShapes Go.ChangeAt Go.RowKit
set_option linter.unusedVariables false
set_option linter.unusedSimpArgs false

set_option maxRecDepth 100000 in
set_option maxHeartbeats 4000000 in
theorem ends_down (fast creep : Int) (b off cap : Nat) (zs : List CycleS) (w : World) (hN : Hid (homeB 0 fast creep = true)) (S : Int) (hS : Hid (max fast (-fast) = S)) (hb0 : b < w.heap.size) (hn : zs.length ≤ cap) (hcap : cap ≤ 9223372036854775807)
    (hp : fast < 0) (HSE : Hid (S = -fast))
    (hc : Hid (∀ (i : Nat) (x : CycleS), zs[i]? = some x → ∀ j, j < 4 → w.cell? ⟨b, off + i * 4 + j, none⟩ = x.cells[j]?)) :
    Calls Try.prog 7 #[.int .i64 fast, .int .i64 creep, .slice (some ⟨b, off, none⟩) zs.length cap] w fun e w' => e = .returned (.bool true) ∧ Below w.heap.size w w' := by
  obtain ⟨n, hlen⟩ : ∃ n, zs.length = n := ⟨_, rfl⟩
  rw [hlen] at hn ⊢
  have hfb := homeB_yes hN.out
  have hf1 : -1048576 ≤ fast ∧ fast ≤ 1048576 := by omega
  clear hfb
  go_enter Try.func7, Try.ntmps7
  go_wp2_with fail
  refine (awake13 _).mono ?_
  rintro e w1 ⟨rfl, hb1⟩
  go_wp2_with fail
  refine (hnew_yes _ _ _ hN.out).mono ?_
  rintro e w2 ⟨rfl, hb2⟩
  go_wp2_with fail
  obtain ⟨B, hB⟩ : ∃ B, w2.heap.size = B := ⟨_, rfl⟩
  have hwB : w.heap.size ≤ B := by
    have := hb1.size
    have := hb2.size
    omega
  have hbB : b < B := by omega
  have hB0 : Below w.heap.size w (w2.alloc (Obj.cells #[Value.int IntKind.i64 0, Value.int IntKind.i64 fast, Value.int IntKind.i64 creep, Value.bool false] 30)) := by (repeat' (first | (with_reducible exact Below.refl _ _) | (with_reducible assumption) | (with_reducible refine below_drewN ?_ _) | (with_reducible refine Below.drew ?_) | (with_reducible refine below_new ?_ (Nat.le_refl _) _) | (with_reducible refine Below.setCell ?_ ?_ _) | (with_reducible refine below_go ?_ (by assumption) (Nat.le_refl _)) | (simp; done) | (simp; omega) | omega))
  rw [hB]
  go_loopw [9, 10, 11, 13] (fun x y z u w' => ∃ (p f c : Int) (t showed left : Bool) (turns : Int) (k : Nat), k ≤ n ∧ k ≤ 300 ∧ Hid (EndsInv fast creep p f c t showed left turns) ∧ 0 ≤ turns ∧ turns ≤ 1 ∧ x = .bool showed ∧ y = .bool left ∧ z = .int .i64 turns ∧ u = .int .i64 k ∧ Below w.heap.size w w' ∧ B < w'.heap.size ∧ (∀ o, w'.frozen? ⟨B, o, none⟩ = false) ∧
    w'.cell? ⟨B, 0, none⟩ = some (.int .i64 p) ∧ w'.cell? ⟨B, 1, none⟩ = some (.int .i64 f) ∧ w'.cell? ⟨B, 2, none⟩ = some (.int .i64 c) ∧ w'.cell? ⟨B, 3, none⟩ = some (.bool t)) (fun _ _ _ u _ => n - (intOf u).toNat)
  case atStart =>
    exact ⟨0, fast, creep, false, false, false, 0, 0, by omega, by omega, show Hid _ from ⟨hN.out, .inl ⟨rfl, rfl, rfl, rfl⟩, by omega, by omega⟩, by omega, by omega, rfl, rfl, rfl, rfl, hB0, by rw [← hB]; simp, fun o => by rw [← hB]; go_simp, by rw [← hB]; go_simp, by rw [← hB]; go_simp, by rw [← hB]; go_simp, by rw [← hB]; go_simp⟩
  case round =>
    obtain ⟨p, f, c, t, showed, left, turns, k, hk, hk3, HI, ht0, ht1, rfl, rfl, rfl, rfl, hbr, hBr, hfr, hc0, hc1, hc2, hc3⟩ := hrel
    clear hB0 hb1 hb2 hB
    by_cases hlt : k < n
    · by_cases h300 : k < 300
      · obtain ⟨x, hx⟩ : ∃ x, zs[k]? = some x := ⟨zs[k], by simp [hlen, hlt]⟩
        obtain ⟨sw, plus, minus, still⟩ := x
        have hcell := hc.out k _ hx
        have g0 : wr.cell? ⟨b, off + k * 4, none⟩ = some (.bool sw) := (hbr.cell hb0).trans (hcell 0 (by omega))
        have g1 : wr.cell? ⟨b, off + k * 4 + 1, none⟩ = some (.bool plus) := (hbr.cell hb0).trans (hcell 1 (by omega))
        have g2 : wr.cell? ⟨b, off + k * 4 + 2, none⟩ = some (.bool minus) := (hbr.cell hb0).trans (hcell 2 (by omega))
        have g3 : wr.cell? ⟨b, off + k * 4 + 3, none⟩ = some (.bool still) := (hbr.cell hb0).trans (hcell 3 (by omega))
        clear hcell hx
        obtain ⟨l', hl'⟩ : ∃ l', (left || (showed && !sw)) = l' := ⟨_, rfl⟩
        obtain ⟨s', hs'⟩ : ∃ s', (showed || sw) = s' := ⟨_, rfl⟩
        obtain ⟨p', f', c', t', v, hr⟩ : ∃ p' f' c' t' v, stepH ⟨p, f, c, t⟩ sw plus minus still = (⟨p', f', c', t'⟩, v) := ⟨_, _, _, _, _, rfl⟩
        have hes := ends_step fast creep p f c t showed left turns sw plus minus still p' f' c' t' v HI.out hr
        rw [hl', hs', hS.out] at hes
        have HL := Lib.hid hl'
        have HS' := Lib.hid hs'
        have HR := Lib.hid hr
        have HES := Lib.hid hes
        clear hl' hs' hr hes
        go_upto_region 13 with fail
        go_cut [9, 10] (fun y s wx => y = .bool showed ∧ s = .bool l' ∧ wx = wr.alloc (Obj.cells #[.bool sw, .bool plus, .bool minus, .bool still] 40))
        case first =>
          go_wp2_with fail
          all_goals
            go_meet
            case rel =>
              rw [← HL.out]
              refine ⟨?_, ?_, ?_⟩ <;> simp [*]
        case rest =>
          obtain ⟨rfl, rfl, rfl⟩ := hcut
          go_upto_region 14 with fail
          go_cut [9] (fun s wx => s = .bool s' ∧ wx = wr.alloc (Obj.cells #[.bool sw, .bool plus, .bool minus, .bool still] 40))
          case first =>
            go_wp2_with fail
            all_goals
              go_meet
              case rel =>
                rw [← HS'.out]
                refine ⟨?_, ?_⟩ <;> simp [*]
          case rest =>
            obtain ⟨rfl, rfl⟩ := hcut
            go_wp2_with fail
            refine (hstep_at _ _ _ _ _ _ _ _ _ _ _ _ _ _ HR.out).mono ?_
            rintro e w1 ⟨rfl, hb1⟩
            obtain ⟨hb1c, hb1f⟩ := bcell hb1
            have hb1z := hb1.size
            have hb1c0 := fun o => hb1c (wr.heap.size) o (by first | (simp; done) | (simp; omega) | (simp at *; omega) | omega)
            have hb1f0 := fun o => hb1f (wr.heap.size) o (by first | (simp; done) | (simp; omega) | (simp at *; omega) | omega)
            have hb1l0 := below_lt (b := wr.heap.size) hb1 (by first | (simp; done) | (simp; omega) | (simp at *; omega) | omega)
            have hb1c1 := fun o => hb1c (B) o (by first | (simp; done) | (simp; omega) | (simp at *; omega) | omega)
            have hb1f1 := fun o => hb1f (B) o (by first | (simp; done) | (simp; omega) | (simp at *; omega) | omega)
            have hb1l1 := below_lt (b := B) hb1 (by first | (simp; done) | (simp; omega) | (simp at *; omega) | omega)
            have hes := HES.out
            clear HES HL HS' HR HI
            obtain ⟨HI', ht2, htt, hv1, hv2, hpp, hov, hvb⟩ := hes
            have hw' := HI'.1
            have HW := Lib.hid hw'
            have hdone : ¬ (p' = 4 ∧ ¬ (s' = true ∧ l' = true)) := fun h => h.2 ⟨HI'.2.2.1 (by omega), HI'.2.2.2 (by omega)⟩
            clear hw'
            obtain ⟨o, ho⟩ : ∃ o, overB p f c = o := ⟨_, rfl⟩
            rw [ho] at hov
            have HO := Lib.hid ho
            clear ho
            obtain ⟨q4, hq4⟩ : ∃ q, (p' == 4) = q := ⟨_, rfl⟩
            have hstay : o = true → p' = p ∧ f' = f ∧ c' = c ∧ t' = t ∧ v = 0 := hov
            have HD := Lib.hid hdone
            have HST := Lib.hid hstay
            clear hov hstay hdone
            have htcase : (t = t') ∨ (t = false ∧ t' = true) := by
              revert htt
              cases t <;> cases t' <;> simp
            clear htt
            have hSf := HSE.out
            have hv3 : v ≤ -fast := by omega
            have hv4 : fast ≤ v := by omega
            have hv5 : -v ≤ -fast := by omega
            clear hSf hv1 hv2
            rcases htcase with rfl | ⟨rfl, rfl⟩
            · cases t
              all_goals
                simp only [beq_self_eq_true, if_true] at HI' ht2
                have HII := Lib.hid HI'
                clear HI'
                cases o
                · clear HST
                  go_wp2_with fail
                  refine (hright_at _ _ _ _ _ true HW.out).mono ?_
                  rintro e w3 ⟨rfl, hb3⟩
                  obtain ⟨hb3c, hb3f⟩ := bcell hb3
                  have hb3z := hb3.size
                  have hb3c0 := fun o => hb3c (B) o (by first | (simp; done) | (simp; omega) | (simp at *; omega) | omega)
                  have hb3f0 := fun o => hb3f (B) o (by first | (simp; done) | (simp; omega) | (simp at *; omega) | omega)
                  have hb3l0 := below_lt (b := B) hb3 (by first | (simp; done) | (simp; omega) | (simp at *; omega) | omega)
                  have hb3c1 := fun o => hb3c (w1.heap.size) o (by first | (simp; done) | (simp; omega) | (simp at *; omega) | omega)
                  have hb3f1 := fun o => hb3f (w1.heap.size) o (by first | (simp; done) | (simp; omega) | (simp at *; omega) | omega)
                  have hb3l1 := below_lt (b := w1.heap.size) hb3 (by first | (simp; done) | (simp; omega) | (simp at *; omega) | omega)
                  go_wp2_with fail
                  refine (over_at _ _ _ _ _ false HO.out).mono ?_
                  rintro e w4 ⟨rfl, hb4⟩
                  obtain ⟨hb4c, hb4f⟩ := bcell hb4
                  have hb4z := hb4.size
                  have hb4c0 := fun o => hb4c (B) o (by first | (simp; done) | (simp; omega) | (simp at *; omega) | omega)
                  have hb4f0 := fun o => hb4f (B) o (by first | (simp; done) | (simp; omega) | (simp at *; omega) | omega)
                  have hb4l0 := below_lt (b := B) hb4 (by first | (simp; done) | (simp; omega) | (simp at *; omega) | omega)
                  have hb4c1 := fun o => hb4c (w1.heap.size) o (by first | (simp; done) | (simp; omega) | (simp at *; omega) | omega)
                  have hb4f1 := fun o => hb4f (w1.heap.size) o (by first | (simp; done) | (simp; omega) | (simp at *; omega) | omega)
                  have hb4l1 := below_lt (b := w1.heap.size) hb4 (by first | (simp; done) | (simp; omega) | (simp at *; omega) | omega)
                  cases q4
                  · go_wp2
                    go_roundw
                    case rel =>
                      exact ⟨_, _, _, _, _, _, _, k + 1, by omega, by omega, HII, by omega, by omega, rfl, rfl, rfl, by go_num, by (repeat' (first | (with_reducible exact Below.refl _ _) | (with_reducible assumption) | (with_reducible refine below_drewN ?_ _) | (with_reducible refine Below.drew ?_) | (with_reducible refine below_new ?_ (Nat.le_refl _) _) | (with_reducible refine Below.setCell ?_ ?_ _) | (with_reducible refine below_go ?_ (by assumption) (Nat.le_refl _)) | (simp; done) | (simp; omega) | omega)), by simp; omega, fun o => by go_simp, by go_simp, by go_simp, by go_simp, by go_simp⟩
                    case measure => simp [intOf]; omega
                  · have hp4 : p' = 4 := by simpa using hq4
                    have h34 := HD.out
                    cases s'
                    · exact absurd ⟨hp4, by simp⟩ h34
                    · cases l'
                      · exact absurd ⟨hp4, by simp⟩ h34
                      · clear h34 hp4
                        go_wp2
                        go_roundw
                        case rel =>
                          exact ⟨_, _, _, _, _, _, _, k + 1, by omega, by omega, HII, by omega, by omega, rfl, rfl, rfl, by go_num, by (repeat' (first | (with_reducible exact Below.refl _ _) | (with_reducible assumption) | (with_reducible refine below_drewN ?_ _) | (with_reducible refine Below.drew ?_) | (with_reducible refine below_new ?_ (Nat.le_refl _) _) | (with_reducible refine Below.setCell ?_ ?_ _) | (with_reducible refine below_go ?_ (by assumption) (Nat.le_refl _)) | (simp; done) | (simp; omega) | omega)), by simp; omega, fun o => by go_simp, by go_simp, by go_simp, by go_simp, by go_simp⟩
                        case measure => simp [intOf]; omega
                · obtain ⟨rfl, rfl, rfl, -, rfl⟩ := HST.out rfl
                  clear HST
                  go_wp2_with fail
                  refine (hright_at _ _ _ _ _ true HW.out).mono ?_
                  rintro e w3 ⟨rfl, hb3⟩
                  obtain ⟨hb3c, hb3f⟩ := bcell hb3
                  have hb3z := hb3.size
                  have hb3c0 := fun o => hb3c (B) o (by first | (simp; done) | (simp; omega) | (simp at *; omega) | omega)
                  have hb3f0 := fun o => hb3f (B) o (by first | (simp; done) | (simp; omega) | (simp at *; omega) | omega)
                  have hb3l0 := below_lt (b := B) hb3 (by first | (simp; done) | (simp; omega) | (simp at *; omega) | omega)
                  have hb3c1 := fun o => hb3c (w1.heap.size) o (by first | (simp; done) | (simp; omega) | (simp at *; omega) | omega)
                  have hb3f1 := fun o => hb3f (w1.heap.size) o (by first | (simp; done) | (simp; omega) | (simp at *; omega) | omega)
                  have hb3l1 := below_lt (b := w1.heap.size) hb3 (by first | (simp; done) | (simp; omega) | (simp at *; omega) | omega)
                  go_wp2_with fail
                  refine (over_at _ _ _ _ _ true HO.out).mono ?_
                  rintro e w4 ⟨rfl, hb4⟩
                  obtain ⟨hb4c, hb4f⟩ := bcell hb4
                  have hb4z := hb4.size
                  have hb4c0 := fun o => hb4c (B) o (by first | (simp; done) | (simp; omega) | (simp at *; omega) | omega)
                  have hb4f0 := fun o => hb4f (B) o (by first | (simp; done) | (simp; omega) | (simp at *; omega) | omega)
                  have hb4l0 := below_lt (b := B) hb4 (by first | (simp; done) | (simp; omega) | (simp at *; omega) | omega)
                  have hb4c1 := fun o => hb4c (w1.heap.size) o (by first | (simp; done) | (simp; omega) | (simp at *; omega) | omega)
                  have hb4f1 := fun o => hb4f (w1.heap.size) o (by first | (simp; done) | (simp; omega) | (simp at *; omega) | omega)
                  have hb4l1 := below_lt (b := w1.heap.size) hb4 (by first | (simp; done) | (simp; omega) | (simp at *; omega) | omega)
                  cases q4
                  · go_wp2
                    go_roundw
                    case rel =>
                      exact ⟨_, _, _, _, _, _, _, k + 1, by omega, by omega, HII, by omega, by omega, rfl, rfl, rfl, by go_num, by (repeat' (first | (with_reducible exact Below.refl _ _) | (with_reducible assumption) | (with_reducible refine below_drewN ?_ _) | (with_reducible refine Below.drew ?_) | (with_reducible refine below_new ?_ (Nat.le_refl _) _) | (with_reducible refine Below.setCell ?_ ?_ _) | (with_reducible refine below_go ?_ (by assumption) (Nat.le_refl _)) | (simp; done) | (simp; omega) | omega)), by simp; omega, fun o => by go_simp, by go_simp, by go_simp, by go_simp, by go_simp⟩
                    case measure => simp [intOf]; omega
                  · have hp4 : p' = 4 := by simpa using hq4
                    have h34 := HD.out
                    cases s'
                    · exact absurd ⟨hp4, by simp⟩ h34
                    · cases l'
                      · exact absurd ⟨hp4, by simp⟩ h34
                      · clear h34 hp4
                        go_wp2
                        go_roundw
                        case rel =>
                          exact ⟨_, _, _, _, _, _, _, k + 1, by omega, by omega, HII, by omega, by omega, rfl, rfl, rfl, by go_num, by (repeat' (first | (with_reducible exact Below.refl _ _) | (with_reducible assumption) | (with_reducible refine below_drewN ?_ _) | (with_reducible refine Below.drew ?_) | (with_reducible refine below_new ?_ (Nat.le_refl _) _) | (with_reducible refine Below.setCell ?_ ?_ _) | (with_reducible refine below_go ?_ (by assumption) (Nat.le_refl _)) | (simp; done) | (simp; omega) | omega)), by simp; omega, fun o => by go_simp, by go_simp, by go_simp, by go_simp, by go_simp⟩
                        case measure => simp [intOf]; omega
            · simp only [show (true == false) = false from rfl, Bool.false_eq_true, if_false] at HI' ht2
              have HII := Lib.hid HI'
              clear HI'
              cases o
              · clear HST
                go_wp2_with fail
                refine (hright_at _ _ _ _ _ true HW.out).mono ?_
                rintro e w3 ⟨rfl, hb3⟩
                obtain ⟨hb3c, hb3f⟩ := bcell hb3
                have hb3z := hb3.size
                have hb3c0 := fun o => hb3c (B) o (by first | (simp; done) | (simp; omega) | (simp at *; omega) | omega)
                have hb3f0 := fun o => hb3f (B) o (by first | (simp; done) | (simp; omega) | (simp at *; omega) | omega)
                have hb3l0 := below_lt (b := B) hb3 (by first | (simp; done) | (simp; omega) | (simp at *; omega) | omega)
                have hb3c1 := fun o => hb3c (w1.heap.size) o (by first | (simp; done) | (simp; omega) | (simp at *; omega) | omega)
                have hb3f1 := fun o => hb3f (w1.heap.size) o (by first | (simp; done) | (simp; omega) | (simp at *; omega) | omega)
                have hb3l1 := below_lt (b := w1.heap.size) hb3 (by first | (simp; done) | (simp; omega) | (simp at *; omega) | omega)
                go_wp2_with fail
                refine (over_at _ _ _ _ _ false HO.out).mono ?_
                rintro e w4 ⟨rfl, hb4⟩
                obtain ⟨hb4c, hb4f⟩ := bcell hb4
                have hb4z := hb4.size
                have hb4c0 := fun o => hb4c (B) o (by first | (simp; done) | (simp; omega) | (simp at *; omega) | omega)
                have hb4f0 := fun o => hb4f (B) o (by first | (simp; done) | (simp; omega) | (simp at *; omega) | omega)
                have hb4l0 := below_lt (b := B) hb4 (by first | (simp; done) | (simp; omega) | (simp at *; omega) | omega)
                have hb4c1 := fun o => hb4c (w1.heap.size) o (by first | (simp; done) | (simp; omega) | (simp at *; omega) | omega)
                have hb4f1 := fun o => hb4f (w1.heap.size) o (by first | (simp; done) | (simp; omega) | (simp at *; omega) | omega)
                have hb4l1 := below_lt (b := w1.heap.size) hb4 (by first | (simp; done) | (simp; omega) | (simp at *; omega) | omega)
                cases q4
                · go_wp2
                  go_roundw
                  case rel =>
                    exact ⟨_, _, _, _, _, _, _, k + 1, by omega, by omega, HII, by omega, by omega, rfl, rfl, rfl, by go_num, by (repeat' (first | (with_reducible exact Below.refl _ _) | (with_reducible assumption) | (with_reducible refine below_drewN ?_ _) | (with_reducible refine Below.drew ?_) | (with_reducible refine below_new ?_ (Nat.le_refl _) _) | (with_reducible refine Below.setCell ?_ ?_ _) | (with_reducible refine below_go ?_ (by assumption) (Nat.le_refl _)) | (simp; done) | (simp; omega) | omega)), by simp; omega, fun o => by go_simp, by go_simp, by go_simp, by go_simp, by go_simp⟩
                  case measure => simp [intOf]; omega
                · have hp4 : p' = 4 := by simpa using hq4
                  have h34 := HD.out
                  cases s'
                  · exact absurd ⟨hp4, by simp⟩ h34
                  · cases l'
                    · exact absurd ⟨hp4, by simp⟩ h34
                    · clear h34 hp4
                      go_wp2
                      go_roundw
                      case rel =>
                        exact ⟨_, _, _, _, _, _, _, k + 1, by omega, by omega, HII, by omega, by omega, rfl, rfl, rfl, by go_num, by (repeat' (first | (with_reducible exact Below.refl _ _) | (with_reducible assumption) | (with_reducible refine below_drewN ?_ _) | (with_reducible refine Below.drew ?_) | (with_reducible refine below_new ?_ (Nat.le_refl _) _) | (with_reducible refine Below.setCell ?_ ?_ _) | (with_reducible refine below_go ?_ (by assumption) (Nat.le_refl _)) | (simp; done) | (simp; omega) | omega)), by simp; omega, fun o => by go_simp, by go_simp, by go_simp, by go_simp, by go_simp⟩
                      case measure => simp [intOf]; omega
              · exact absurd (HST.out rfl).2.2.2.1 (by simp)
      · go_wp2
        go_ret
        exact ⟨rfl, by (repeat' (first | (with_reducible exact Below.refl _ _) | (with_reducible assumption) | (with_reducible refine below_drewN ?_ _) | (with_reducible refine Below.drew ?_) | (with_reducible refine below_new ?_ (Nat.le_refl _) _) | (with_reducible refine Below.setCell ?_ ?_ _) | (with_reducible refine below_go ?_ (by assumption) (Nat.le_refl _)) | (simp; done) | (simp; omega) | omega))⟩
    · go_wp2
      go_ret
      exact ⟨rfl, by (repeat' (first | (with_reducible exact Below.refl _ _) | (with_reducible assumption) | (with_reducible refine below_drewN ?_ _) | (with_reducible refine Below.drew ?_) | (with_reducible refine below_new ?_ (Nat.le_refl _) _) | (with_reducible refine Below.setCell ?_ ?_ _) | (with_reducible refine below_go ?_ (by assumption) (Nat.le_refl _)) | (simp; done) | (simp; omega) | omega))⟩

end Go.Proofs.Ytddakmlnkffgiaa
