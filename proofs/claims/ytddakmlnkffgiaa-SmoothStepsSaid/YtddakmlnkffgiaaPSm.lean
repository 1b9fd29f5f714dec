/- Layer 10, plain: what a push does to sums. No program in sight. -/
import Derived.Test.YtddakmlnkffgiaaSmH
namespace Go.Proofs.Ytddakmlnkffgiaa
set_option linter.unusedVariables false
set_option linter.unusedSimpArgs false

theorem rightW_push (zs : List Int) (n : Nat) (pos : Int) (hr : rightW zs n = true) (hp : plB pos = true) : rightW (pos :: zs) n = true := by
  have hy := rightW_yes hr
  refine rightW_mk ⟨hy.1, hy.2.1⟩ fun i hi => ?_
  cases i with
  | zero => simpa using plB_yes hp
  | succ i => simpa using hy.2.2 i (by omega)
theorem rightW_same (m : Nat) (pos : Int) (hm : 1 ≤ m ∧ m ≤ 16) (hp : plB pos = true) : rightW (List.replicate m pos) m = true := by
  refine rightW_mk hm fun i hi => ?_
  rw [List.getElem?_replicate, if_pos hi]
  exact plB_yes hp
theorem sumK_cons (z : Int) (zs : List Int) (n : Nat) : sumK (z :: zs) (n + 1) = z + sumK zs n := by
  induction n with
  | zero => simp [sumK]
  | succ n ih =>
    have h1 : sumK (z :: zs) (n + 1 + 1) = sumK (z :: zs) (n + 1) + (z :: zs)[n + 1]?.getD 0 := rfl
    have h2 : sumK zs (n + 1) = sumK zs n + zs[n]?.getD 0 := rfl
    rw [h1, ih, h2]
    simp
    omega
/-- all the first n are one -/
def oneK (zs : List Int) (n : Nat) (pos : Int) : Prop := ∀ i, i < n → zs[i]?.getD 0 = pos
theorem oneK_push {zs : List Int} {n : Nat} {pos : Int} (h : oneK zs n pos) : oneK (pos :: zs) (n + 1) pos := by
  intro i hi
  cases i with
  | zero => simp
  | succ i => simpa using h i (by omega)
theorem oneK_le {zs : List Int} {n m : Nat} {pos : Int} (h : oneK zs n pos) (hm : m ≤ n) : oneK zs m pos := fun i hi => h i (by omega)
theorem sumK_one {zs : List Int} {n : Nat} {pos : Int} (h : oneK zs n pos) : sumK zs n = (n : Int) * pos := by
  induction n with
  | zero => simp [sumK]
  | succ n ih =>
    have h1 : sumK zs (n + 1) = sumK zs n + zs[n]?.getD 0 := rfl
    rw [h1, ih (oneK_le h (by omega)), h n (by omega)]
    have h2 : ((n + 1 : Nat) : Int) = (n : Int) + 1 := by omega
    rw [h2, Int.add_mul, Int.one_mul]
theorem rest_one {zs : List Int} {n : Nat} {pos : Int} (hr : rightW zs n = true) (h : oneK zs n pos) : restW zs n = true := by
  unfold restW
  rw [hr, anyK_of _ _ _ (fun i hi => by
    have := rightW_yes hr
    rw [h i hi, h 0 (by omega)]
    simp)]
  rfl
theorem same_one {zs ys : List Int} {n : Nat} {pos : Int} (h : oneK zs n pos) (h2 : oneK ys n pos) : sameK zs ys n = true := by
  induction n with
  | zero => rfl
  | succ n ih =>
    show (sameK zs ys n && _) = true
    rw [ih (oneK_le h (by omega)) (oneK_le h2 (by omega)), h n (by omega), h2 n (by omega)]
    simp

end Go.Proofs.Ytddakmlnkffgiaa
