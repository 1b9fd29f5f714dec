/- Contracts of brake's Reach and Pass. -/
import Derived.Test.YtgbcefdlmockoaaBrakeB
namespace Go.Proofs.Ytgbcefdlmockoaa
open Go.RowKit
set_option linter.unusedVariables false
set_option linter.unusedSimpArgs false
attribute [local go_sem] ite_max ite_min vite_max vite_min

set_option maxHeartbeats 400000 in
theorem greatest_any (F : FuncId) (caps : Array Value) (p : Int → Bool) (h0 : p 0 = true) (hp : ∀ a b, a ≤ b → p b = true → p a = true) (w : World)
    (hcf : ∀ (args : Array Value) (w : World), Sem.run Try.prog (callFunc F args) w = .ok (.enter F args) w)
    (hF : ∀ (v : Int) (n : Nat), 0 ≤ v ∧ v ≤ 1048576 → Calls Try.prog F (#[.int .i64 v] ++ caps) (w.drewN n) fun e w' => e = .returned (.bool (p v)) ∧ ∃ m, w' = (w.drewN n).drewN m) :
    Calls Try.prog 71 #[.func (.func F) #[] caps] w fun e w' => e = .returned (.int .i64 (grt p 1048576)) ∧ ∃ n, w' = w.drewN n := by
  have HF := Lib.hid hF
  have HP := Lib.hid hp
  have H0 := Lib.hid h0
  clear hF hp h0
  go_enter Try.func71, Try.ntmps71
  go_wp2
  go_loopw [3, 4] (fun l h w' => ∃ lo hi : Int, 0 ≤ lo ∧ lo ≤ hi ∧ hi ≤ 1048576 ∧ Hid (p lo = true) ∧ Hid (∀ x, hi < x → x ≤ 1048576 → p x = false) ∧ l = .int .i64 lo ∧ h = .int .i64 hi ∧ ∃ n, w' = w.drewN n) (fun l h _ => (intOf h - intOf l).toNat)
  case atStart => exact ⟨0, 1048576, by omega, by omega, by omega, H0, fun x h1 h2 => by omega, rfl, rfl, 0, rfl⟩
  case round =>
    obtain ⟨lo, hi, hl, hlh, hh, HL, HH, rfl, rfl, n, rfl⟩ := hrel
    by_cases hc : lo < hi
    · cases hpm : p ((lo + hi + 1) / 2)
      · have HM := Lib.hid hpm
        clear hpm
        go_wp2_with fail
        refine (HF.out ((lo + hi + 1) / 2) n (by omega)).mono ?_
        rw [HM.out]
        rintro e w' ⟨rfl, m, rfl⟩
        go_wp2
        go_roundw
        case rel => exact ⟨lo, (lo + hi + 1) / 2 - 1, hl, by omega, by omega, HL, fun x h1 h2 => by
          by_cases hx : x ≤ hi
          · cases h3 : p x
            · rfl
            · have h4 := HP.out _ _ (show (lo + hi + 1) / 2 ≤ x by omega) h3
              rw [HM.out] at h4
              exact absurd h4 (by simp)
          · exact HH.out x (by omega) h2, rfl, rfl, n + m, rfl⟩
        case measure => simp [intOf]; omega
      · have HM := Lib.hid hpm
        clear hpm
        go_wp2_with fail
        refine (HF.out ((lo + hi + 1) / 2) n (by omega)).mono ?_
        rw [HM.out]
        rintro e w' ⟨rfl, m, rfl⟩
        go_wp2
        go_roundw
        case rel => exact ⟨(lo + hi + 1) / 2, hi, by omega, by omega, by omega, HM, HH, rfl, rfl, n + m, rfl⟩
        case measure => simp [intOf]; omega
    · go_wp2
      have hg : grt p 1048576 = lo := grt_eq p 1048576 lo hl (by omega) HL.out (fun x h1 h2 => HH.out x (by omega) h2)
      go_ret
      rw [hg]
      exact ⟨rfl, n, rfl⟩

end Go.Proofs.Ytgbcefdlmockoaa
