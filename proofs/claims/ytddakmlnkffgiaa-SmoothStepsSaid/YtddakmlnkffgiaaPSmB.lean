/- Layer 10, plain: how the sum of the last places changes. No program in sight. -/
import Derived.Test.YtddakmlnkffgiaaPSm
namespace Go.Proofs.Ytddakmlnkffgiaa
set_option linter.unusedVariables false
set_option linter.unusedSimpArgs false

theorem OnW.congr {w : World} {zs ys : List Int} {n g k : Nat} (h : OnW w zs n g k) (he : ∀ i, i < n → ys[i]?.getD 0 = zs[i]?.getD 0) : OnW w ys n g k :=
  ⟨h.nk, h.km, h.gl, fun i hi => by rw [he i hi]; exact h.cs i hi⟩
theorem rep_get (n : Nat) (f : Int) (i : Nat) (h : i < n) : (List.replicate n f)[i]?.getD 0 = f := by
  rw [List.getElem?_replicate, if_pos h]
  rfl
theorem rightW_rep (n m : Nat) (f : Int) (hm : 1 ≤ m ∧ m ≤ 16) (hn : m ≤ n) (hp : plB f = true) : rightW (List.replicate n f) m = true :=
  rightW_mk hm fun i hi => by rw [rep_get n f i (by omega)]; exact plB_yes hp
theorem sumK_congr {zs ys : List Int} {n : Nat} (he : ∀ i, i < n → ys[i]?.getD 0 = zs[i]?.getD 0) : sumK ys n = sumK zs n := by
  induction n with
  | zero => rfl
  | succ n ih =>
    show sumK ys n + ys[n]?.getD 0 = sumK zs n + zs[n]?.getD 0
    rw [ih (fun i hi => he i (by omega)), he n (by omega)]

/-- the i-th place less the one before it -/
def dK (zs : List Int) (i : Nat) : Int := zs[i]?.getD 0 - zs[i + 1]?.getD 0
theorem dK_zero (zs : List Int) (d : Int) : dK ((zs[0]?.getD 0 + d) :: zs) 0 = d := by
  simp [dK]
  omega
theorem dK_succ (zs : List Int) (p : Int) (i : Nat) : dK (p :: zs) (i + 1) = dK zs i := by
  simp [dK]
theorem dK_rep (n : Nat) (f : Int) (i : Nat) (h : i + 1 < n) : dK (List.replicate n f) i = 0 := by
  unfold dK
  rw [rep_get n f i (by omega), rep_get n f (i + 1) h]
  omega

theorem tele (f : Nat → Int) (M : Int) (m : Nat) (h : ∀ i, i < m → -M ≤ f i - f (i + 1) ∧ f i - f (i + 1) ≤ M) : -((m : Int) * M) ≤ f 0 - f m ∧ f 0 - f m ≤ (m : Int) * M := by
  induction m with
  | zero => simp
  | succ m ih =>
    have h1 := ih (fun i hi => h i (by omega))
    have h2 := h m (by omega)
    have h3 : ((m + 1 : Nat) : Int) * M = (m : Int) * M + M := by
      have : ((m + 1 : Nat) : Int) = (m : Int) + 1 := by omega
      rw [this, Int.add_mul, Int.one_mul]
    rw [h3]
    omega

/-- the bounds that the places' own speeds have -/
structure Hist (zs : List Int) (m : Nat) (most gain : Int) : Prop where
  d : ∀ i, i ≤ m + 1 → -most ≤ dK zs i ∧ dK zs i ≤ most
  g : ∀ i, i ≤ m → -gain ≤ dK zs i - dK zs (i + 1) ∧ dK zs i - dK zs (i + 1) ≤ gain
theorem Hist.rep (m : Nat) (f : Int) : Hist (List.replicate (m + 3) f) m 0 0 :=
  ⟨fun i hi => by rw [dK_rep _ _ _ (by omega)]; omega, fun i hi => by rw [dK_rep _ _ _ (by omega), dK_rep _ _ _ (by omega)]; omega⟩
theorem Hist.push {zs : List Int} {m : Nat} {most gain : Int} (h : Hist zs m most gain) (d : Int) :
    Hist ((zs[0]?.getD 0 + d) :: zs) m (max (max most d) (-d)) (max (max gain (d - dK zs 0)) (dK zs 0 - d)) := by
  refine ⟨fun i hi => ?_, fun i hi => ?_⟩
  · cases i with
    | zero =>
      rw [dK_zero]
      omega
    | succ i =>
      rw [dK_succ]
      have := h.d i (by omega)
      omega
  · cases i with
    | zero =>
      rw [dK_zero, dK_succ]
      omega
    | succ i =>
      rw [dK_succ, dK_succ]
      have := h.g i (by omega)
      omega

theorem sum_push (zs : List Int) (m : Nat) (p : Int) (hm : 1 ≤ m) : sumK (p :: zs) m - sumK zs m = (p :: zs)[0]?.getD 0 - (p :: zs)[m]?.getD 0 := by
  obtain ⟨n, rfl⟩ : ∃ n, m = n + 1 := ⟨m - 1, by omega⟩
  rw [sumK_cons]
  show p + sumK zs n - (sumK zs n + zs[n]?.getD 0) = _
  simp
  omega

/-- all that is asked of one step -/
theorem bounds_facts (zs : List Int) (m : Nat) (most gain d M G : Int) (hm : 1 ≤ m) (H : Hist zs m most gain) (hM : max (max most d) (-d) = M) (hG : max (max gain (d - dK zs 0)) (dK zs 0 - d) = G) (zs' : List Int) (hz : (zs[0]?.getD 0 + d) :: zs = zs') (n o v a : Int) (hn : sumK zs' m = n) (ho : sumK zs m = o)
    (hv : zs[0]?.getD 0 - zs[m]?.getD 0 = v) (ha : dK zs 0 - dK zs m = a) :
    Hist zs' m M G ∧ (n - o ≤ (m : Int) * M ∧ -(n - o) ≤ (m : Int) * M) ∧ (n - o - v ≤ (m : Int) * G ∧ -(n - o - v) ≤ (m : Int) * G) ∧ (n - o - v - a ≤ 2 * G ∧ a - (n - o - v) ≤ 2 * G) ∧
    zs'[0]?.getD 0 - zs'[m]?.getD 0 = n - o ∧ dK zs' 0 - dK zs' m = n - o - v ∧ zs'[0]?.getD 0 = zs[0]?.getD 0 + d ∧ dK zs' 0 = d := by
  have H' : Hist zs' m M G := by rw [← hz, ← hM, ← hG]; exact H.push d
  have h0 : zs'[0]?.getD 0 = zs[0]?.getD 0 + d := by rw [← hz]; rfl
  have hd0 : dK zs' 0 = d := by rw [← hz]; exact dK_zero _ _
  have h1 : zs'[0]?.getD 0 - zs'[m]?.getD 0 = n - o := by
    rw [← hn, ← ho, ← hz]
    exact (sum_push zs m _ hm).symm
  have hdm : dK zs' m = zs[m - 1]?.getD 0 - zs[m]?.getD 0 := by
    obtain ⟨k, rfl⟩ : ∃ k, m = k + 1 := ⟨m - 1, by omega⟩
    rw [← hz, dK_succ]
    rfl
  have hzm : zs'[m]?.getD 0 = zs[m - 1]?.getD 0 := by
    obtain ⟨k, rfl⟩ : ∃ k, m = k + 1 := ⟨m - 1, by omega⟩
    rw [← hz]
    simp
  have h2 : dK zs' 0 - dK zs' m = n - o - v := by
    rw [hd0, hdm, ← hv, ← h1, h0, hzm]
    omega
  have h3 := tele (fun i => zs'[i]?.getD 0) M m (fun i hi => H'.d i (by omega))
  have h4 := tele (dK zs') G m (fun i hi => H'.g i (by omega))
  have h5 := H'.g 0 (by omega)
  have h6 := H'.g m (by omega)
  have e1 : dK zs' (0 + 1) = dK zs 0 := by rw [← hz]; exact dK_succ _ _ _
  have e2 : dK zs' (m + 1) = dK zs m := by rw [← hz]; exact dK_succ _ _ _
  rw [e1] at h5
  rw [e2] at h6
  rw [h1] at h3
  rw [h2] at h4
  refine ⟨H', ⟨h3.2, by omega⟩, ⟨h4.2, by omega⟩, ⟨by omega, by omega⟩, h1, h2, h0, hd0⟩

theorem mul_le16 (m : Nat) (M B : Int) (hm : m ≤ 16) (h0 : 0 ≤ M) (h : M ≤ B) : 0 ≤ (m : Int) * M ∧ (m : Int) * M ≤ 16 * B := by
  refine ⟨Int.mul_nonneg (by omega) h0, ?_⟩
  exact Int.le_trans (Int.mul_le_mul_of_nonneg_left h (by omega)) (Int.mul_le_mul_of_nonneg_right (by omega) (by omega))
theorem mul_ge16 (m : Nat) (M B : Int) (hm : m ≤ 16) (hB : 0 ≤ B) (h0 : -B ≤ M) (h : M ≤ B) : -(16 * B) ≤ (m : Int) * M ∧ (m : Int) * M ≤ 16 * B := by
  have h1 : (m : Int) * M ≤ (m : Int) * B := Int.mul_le_mul_of_nonneg_left h (by omega)
  have h2 : (m : Int) * -B ≤ (m : Int) * M := Int.mul_le_mul_of_nonneg_left h0 (by omega)
  have h3 : (m : Int) * B ≤ 16 * B := Int.mul_le_mul_of_nonneg_right (by omega) (by omega)
  rw [Int.mul_neg] at h2
  omega

/-- the least and the greatest of the last places bound their sum -/
theorem sum_between (zs : List Int) (m : Nat) (lo hi : Int) (h : ∀ i, i < m → lo ≤ zs[i]?.getD 0 ∧ zs[i]?.getD 0 ≤ hi) : (m : Int) * lo ≤ sumK zs m ∧ sumK zs m ≤ (m : Int) * hi := by
  induction m with
  | zero => simp [sumK]
  | succ m ih =>
    have h1 := ih (fun i hi => h i (by omega))
    have h2 := h m (by omega)
    have e : ((m + 1 : Nat) : Int) = (m : Int) + 1 := by omega
    have h3 : sumK zs (m + 1) = sumK zs m + zs[m]?.getD 0 := rfl
    rw [e, Int.add_mul, Int.add_mul, Int.one_mul, Int.one_mul, h3]
    omega

end Go.Proofs.Ytddakmlnkffgiaa
