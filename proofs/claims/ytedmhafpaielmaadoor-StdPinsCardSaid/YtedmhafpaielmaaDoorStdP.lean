/- Layer 16: the two tables tell the same. -/
import Derived.Test.YtedmhafpaielmaaDoorStdO
namespace Go.Proofs.YtedmhafpaielmaaDoor
open Go.RowKit
set_option linter.unusedVariables false
set_option linter.unusedSimpArgs false

theorem names_map : shL.map (fun s => (s.name, s.kind)) = rwL.map (fun r => (r.name, r.kind)) := by kernel_rfl
theorem kind_is (nm : ByteArray) : kindOf nm = rkindOf nm := by
  have h1 : kindOf nm = (((shL.map (fun s => (s.name, s.kind))).find? (fun x => x.1.toList == nm.toList)).map (fun x => x.2)).getD 0 := by
    unfold kindOf
    rw [List.find?_map]
    simp only [Function.comp_def]
    cases shL.find? (fun s => s.name.toList == nm.toList) <;> rfl
  have h2 : rkindOf nm = (((rwL.map (fun r => (r.name, r.kind))).find? (fun x => x.1.toList == nm.toList)).map (fun x => x.2)).getD 0 := by
    unfold rkindOf
    rw [List.find?_map]
    simp only [Function.comp_def]
    cases rwL.find? (fun r => r.name.toList == nm.toList) <;> rfl
  rw [h1, h2, names_map]
theorem kinds_some : ∀ kind ∈ ([10, 11, 12, 13, 14, 15, 16, 17, 18, 20, 21, 22, 23, 24, 25, 26, 27, 28, 29, 30, 31] : List Int), pinsOf kind = rpinsOf kind ∧ countOf kind = rcount kind ∧ nameOf kind = rnameOf kind ∧ kindOf (nameOf kind) = kind := by
  intro kind h
  simp only [List.mem_cons, List.not_mem_nil, or_false] at h
  rcases h with rfl | rfl | rfl | rfl | rfl | rfl | rfl | rfl | rfl | rfl | rfl | rfl | rfl | rfl | rfl | rfl | rfl | rfl | rfl | rfl | rfl
  all_goals exact ⟨by kernel_rfl, by kernel_rfl, by kernel_rfl, by kernel_rfl⟩
theorem sh_kinds : shL.all (fun s => ([10, 11, 12, 13, 14, 15, 16, 17, 18, 20, 21, 22, 23, 24, 25, 26, 27, 28, 29, 30, 31] : List Int).contains s.kind) = true := by kernel_rfl
theorem rw_kinds : rwL.all (fun s => ([10, 11, 12, 13, 14, 15, 16, 17, 18, 20, 21, 22, 23, 24, 25, 26, 27, 28, 29, 30, 31] : List Int).contains s.kind) = true := by kernel_rfl
theorem kinds_is (kind : Int) : pinsOf kind = rpinsOf kind ∧ countOf kind = rcount kind ∧ nameOf kind = rnameOf kind ∧ (countOf kind ≠ 0 → kindOf (nameOf kind) = kind) := by
  by_cases h : kind ∈ ([10, 11, 12, 13, 14, 15, 16, 17, 18, 20, 21, 22, 23, 24, 25, 26, 27, 28, 29, 30, 31] : List Int)
  · obtain ⟨h1, h2, h3, h4⟩ := kinds_some kind h
    exact ⟨h1, h2, h3, fun _ => h4⟩
  · have h1 : shL.find? (fun s => decide (s.kind = kind)) = none := by
      rw [List.find?_eq_none]
      intro s hs hk
      have := List.all_eq_true.1 sh_kinds s hs
      simp only [decide_eq_true_eq] at hk
      rw [hk] at this
      exact h (by simpa using this)
    have h2 : rwL.find? (fun s => decide (s.kind = kind)) = none := by
      rw [List.find?_eq_none]
      intro s hs hk
      have := List.all_eq_true.1 rw_kinds s hs
      simp only [decide_eq_true_eq] at hk
      rw [hk] at this
      exact h (by simpa using this)
    unfold pinsOf rpinsOf countOf rcount nameOf rnameOf rfind
    rw [h1, h2]
    exact ⟨rfl, rfl, rfl, fun h => absurd rfl h⟩

theorem pinsK_get (r : Rw) (j : Nat) (hj : j < 3) : ∀ n k, k < n → (r.pinsK n)[k * 3 + j]? = (r.pin k)[j]?
  | 0, k, h => by omega
  | n + 1, k, h => by
    have hl : ∀ m, (r.pinsK m).length = m * 3 := by
      intro m
      induction m with
      | zero => rfl
      | succ m ih => rw [Rw.pinsK, List.length_append, ih]; show m * 3 + 3 = _; omega
    rw [Rw.pinsK]
    by_cases hk : k < n
    · rw [List.getElem?_append_left (by rw [hl]; omega)]
      exact pinsK_get r j hj n k hk
    · obtain rfl : k = n := by omega
      rw [List.getElem?_append_right (by rw [hl]; omega), hl, show k * 3 + j - k * 3 = j by omega]
/-- each pin: a name, a type, whether it goes in -/
theorem pins_form (kind : Int) (k : Nat) (h : k < rcount kind) : ∃ (s : ByteArray) (t : Int) (b : Bool), (rpinsOf kind)[k * 3]? = some (.string s) ∧ (rpinsOf kind)[k * 3 + 1]? = some (.int .i64 t) ∧ (rpinsOf kind)[k * 3 + 2]? = some (.bool b) := by
  unfold rcount at h
  unfold rpinsOf
  cases hf : rfind kind with
  | none => rw [hf] at h; exact absurd h (Nat.not_lt_zero k)
  | some r =>
    rw [hf] at h
    exact ⟨_, _, _, pinsK_get r 0 (by omega) r.n k h, pinsK_get r 1 (by omega) r.n k h, pinsK_get r 2 (by omega) r.n k h⟩
theorem rcount_le (kind : Int) : rcount kind ≤ 20 := by
  unfold rcount
  cases hf : rfind kind with
  | none => exact Nat.zero_le _
  | some r =>
    have hok := List.all_eq_true.1 okR_all r (List.mem_of_find?_eq_some hf)
    unfold okR at hok
    simp only [Bool.and_eq_true, decide_eq_true_eq] at hok
    exact hok.1

end Go.Proofs.YtedmhafpaielmaaDoor
