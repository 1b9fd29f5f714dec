/- The plain arithmetic of the ways behind a speed. No program in sight. -/
namespace Go.Proofs.YthhfnageadckkaaGreat
set_option linter.unusedVariables false
set_option linter.unusedSimpArgs false

def spd (v : Int) : Int := max 0 (min 1048576 v)
def lss (d : Int) : Int := max 1 (min 1048576 d)
def wy (s : Int) : Int := max 0 (min 2199023255552 s)
def rowf (v d k : Int) : Int := k * v - d * (k * (k + 1) / 2)
def slw (v u d : Int) : Int := if v ≤ u then 0 else rowf v d ((v - u - 1) / d)

theorem spd_bd (v : Int) : 0 ≤ spd v ∧ spd v ≤ 1048576 := by unfold spd; omega
theorem lss_bd (v : Int) : 1 ≤ lss v ∧ lss v ≤ 1048576 := by unfold lss; omega
theorem wy_bd (v : Int) : 0 ≤ wy v ∧ wy v ≤ 2199023255552 := by unfold wy; omega
theorem spd_id (v : Int) (h : 0 ≤ v ∧ v ≤ 1048576) : spd v = v := by unfold spd; omega
theorem lss_id (v : Int) (h : 1 ≤ v ∧ v ≤ 1048576) : lss v = v := by unfold lss; omega
theorem wy_id (v : Int) (h : 0 ≤ v ∧ v ≤ 2199023255552) : wy v = v := by unfold wy; omega

theorem mul_le_of (a b A B : Int) (ha : 0 ≤ a) (hb : 0 ≤ b) (hA : a ≤ A) (hB : b ≤ B) : 0 ≤ a * b ∧ a * b ≤ A * B :=
 ⟨Int.mul_nonneg ha hb, Int.mul_le_mul hA hB hb (by omega)⟩

theorem row_bd (v d k : Int) (hv : 0 ≤ v ∧ v ≤ 1048576) (hd : 1 ≤ d ∧ d ≤ 1048576) (hk : 0 ≤ k) (hdk : d * k ≤ v) :
  k ≤ 1048576 ∧ 0 ≤ k * v ∧ k * v ≤ 1099511627776 ∧ 0 ≤ k * (k + 1) ∧ k * (k + 1) ≤ 1099512676352 ∧
  0 ≤ d * (k * (k + 1) / 2) ∧ d * (k * (k + 1) / 2) ≤ 1099512676352 := by
 have hk1 : k ≤ 1048576 := by
  have : 1 * k ≤ d * k := Int.mul_le_mul_of_nonneg_right hd.1 hk
  omega
 have h1 := mul_le_of k v 1048576 1048576 hk hv.1 hk1 hv.2
 have h2 := mul_le_of k (k + 1) 1048576 1048577 hk (by omega) hk1 (by omega)
 have h3 : 0 ≤ k * (k + 1) / 2 := Int.ediv_nonneg h2.1 (by omega)
 have h4 : 2 * (d * (k * (k + 1) / 2)) ≤ (d * k) * (k + 1) := by
  have h5 : 2 * (k * (k + 1) / 2) ≤ k * (k + 1) := by omega
  have h6 : d * (2 * (k * (k + 1) / 2)) ≤ d * (k * (k + 1)) := Int.mul_le_mul_of_nonneg_left h5 (by omega)
  have h7 : d * (2 * (k * (k + 1) / 2)) = 2 * (d * (k * (k + 1) / 2)) := by rw [Int.mul_left_comm]
  have h8 : d * (k * (k + 1)) = (d * k) * (k + 1) := by rw [Int.mul_assoc]
  omega
 have h9 := mul_le_of (d * k) (k + 1) 1048576 1048577 (Int.mul_nonneg (by omega) hk) (by omega) (by omega) (by omega)
 have h10 : 0 ≤ d * (k * (k + 1) / 2) := Int.mul_nonneg (by omega) h3
 refine ⟨hk1, h1.1, by omega, h2.1, by omega, h10, by omega⟩

theorem quo_mul (n d : Int) (hd : 1 ≤ d) (hn : 0 ≤ n) : 0 ≤ n / d ∧ d * (n / d) ≤ n ∧ n < d * (n / d) + d := by
 have h1 := Int.ediv_nonneg hn (by omega : 0 ≤ d)
 have h2 := Int.mul_ediv_add_emod n d
 have h3 := Int.emod_nonneg n (by omega : d ≠ 0)
 have h4 := Int.emod_lt_of_pos n (by omega : 0 < d)
 omega

theorem tri (k : Int) : (k + 1) * (k + 1 + 1) / 2 = k * (k + 1) / 2 + (k + 1) := by
 have h : (k + 1) * (k + 1 + 1) = k * (k + 1) + (k + 1) * 2 := by
  rw [Int.mul_add (k + 1) (k + 1) 1, Int.mul_add (k + 1) k 1, Int.mul_comm (k + 1) k]
  omega
 rw [h, Int.add_mul_ediv_right _ _ (by omega)]

theorem rowf_zero (v d : Int) : rowf v d 0 = 0 := by simp [rowf]
theorem rowf_succ (v d k : Int) : rowf v d (k + 1) = (v - d) + rowf (v - d) d k := by
 unfold rowf
 rw [tri, Int.mul_add, Int.add_mul, Int.mul_sub, Int.mul_add d k 1]
 have : k * d = d * k := Int.mul_comm _ _
 omega

theorem slw_le (v u d : Int) (h : v ≤ u) : slw v u d = 0 := by simp [slw, h]
theorem slw_near (v u d : Int) (hd : 1 ≤ d) (h : v - d ≤ u) : slw v u d = 0 := by
 unfold slw
 split
 ·rfl
 ·rw [show (v - u - 1) / d = 0 from Int.ediv_eq_zero_of_lt (by omega) (by omega), rowf_zero]
theorem slw_far (v u d : Int) (hd : 1 ≤ d) (h : u < v - d) : slw v u d = (v - d) + slw (v - d) u d := by
 have h1 : (v - u - 1) / d = (v - d - u - 1) / d + 1 := by
  rw [show v - u - 1 = (v - d - u - 1) + d from by omega, Int.add_ediv_of_dvd_right (Int.dvd_refl d), Int.ediv_self (by omega)]
 unfold slw
 rw [if_neg (by omega), if_neg (by omega), h1, rowf_succ]

theorem down_ind (u d : Int) (hd : 1 ≤ d) {P : Int → Prop} (near : ∀ v, v - d ≤ u → P v) (far : ∀ v, u < v - d → P (v - d) → P v) (v : Int) : P v := by
 have key : ∀ n : Nat, ∀ v : Int, v ≤ u + n → P v := by
  intro n
  induction n with
  | zero => intro v h; exact near v (by omega)
  | succ n ih =>
   intro v h
   by_cases c : v - d ≤ u
   ·exact near v c
   ·exact far v (by omega) (ih (v - d) (by omega))
 exact key (v - u).toNat v (by omega)

theorem slw_nonneg (v u d : Int) (hd : 1 ≤ d) (hu : 0 ≤ u) : 0 ≤ slw v u d := by
 refine down_ind u d hd (P := fun v => 0 ≤ slw v u d) (fun v h => ?_) (fun v h ih => ?_) v
 ·rw [slw_near v u d hd h]; omega
 ·rw [slw_far v u d hd h]; omega

theorem slw_mono (u d : Int) (hd : 1 ≤ d) (hu : 0 ≤ u) (a : Int) : ∀ b, a ≤ b → slw a u d ≤ slw b u d := by
 refine down_ind u d hd (P := fun a => ∀ b, a ≤ b → slw a u d ≤ slw b u d) (fun v h b _ => ?_) (fun v h ih b hb => ?_) a
 ·rw [slw_near v u d hd h]; exact slw_nonneg b u d hd hu
 ·rw [slw_far v u d hd h, slw_far b u d hd (by omega)]
  have := ih (b - d) (by omega)
  omega

theorem slw_bound (v u d : Int) (hv : 0 ≤ v ∧ v ≤ 1048576) (hu : 0 ≤ u) (hd : 1 ≤ d ∧ d ≤ 1048576) : 0 ≤ slw v u d ∧ slw v u d ≤ 1099511627776 := by
 refine ⟨slw_nonneg v u d hd.1 hu, ?_⟩
 unfold slw
 split
 ·omega
 ·have hq := quo_mul (v - u - 1) d hd.1 (by omega)
  have := row_bd v d ((v - u - 1) / d) hv hd hq.1 (by omega)
  unfold rowf
  omega

def grt (p : Int → Bool) : Nat → Int
 | 0 => 0
 | n + 1 => if p ((n : Int) + 1) then (n : Int) + 1 else grt p n

theorem grt_bd (p : Int → Bool) (n : Nat) : 0 ≤ grt p n ∧ grt p n ≤ n := by
 induction n with
 | zero => simp [grt]
 | succ n ih => unfold grt; split <;> omega
theorem grt_holds (p : Int → Bool) (h0 : p 0 = true) (n : Nat) : p (grt p n) = true := by
 induction n with
 | zero => simpa [grt] using h0
 | succ n ih => unfold grt; split <;> assumption
theorem grt_above (p : Int → Bool) (n : Nat) : ∀ x, grt p n < x → x ≤ n → p x = false := by
 induction n with
 | zero => intro x h1 h2; simp [grt] at h1; omega
 | succ n ih =>
  intro x h1 h2
  unfold grt at h1
  split at h1
  ·omega
  ·rename_i hp
   by_cases hx : x = (n : Int) + 1
   ·subst hx; simpa using hp
   ·exact ih x h1 (by omega)
theorem grt_eq (p : Int → Bool) (n : Nat) (r : Int) (h0 : 0 ≤ r) (hn : r ≤ n) (hr : p r = true) (ha : ∀ x, r < x → x ≤ n → p x = false) : grt p n = r := by
 induction n with
 | zero => simp [grt]; omega
 | succ n ih =>
  unfold grt
  by_cases c : r = (n : Int) + 1
  ·rw [c] at hr; rw [if_pos hr]; omega
  ·rw [if_neg (by rw [ha ((n : Int) + 1) (by omega) (by omega)]; simp)]
   exact ih (by omega) (fun x h1 h2 => ha x h1 (by omega))

def stopsB (s d v : Int) : Bool := decide (v + slw v 0 d ≤ s)
def rch (s d : Int) : Int := grt (stopsB s d) 1048576
def passB (s u d v : Int) : Bool := decide (v ≤ u) || decide (v + slw v u d ≤ s)
def pas (s u d : Int) : Int := grt (passB s u d) 1048576

theorem stopsB_anti (s d : Int) (hd : 1 ≤ d) (a b : Int) (h : a ≤ b) (hb : stopsB s d b = true) : stopsB s d a = true := by
 simp only [stopsB, decide_eq_true_eq] at *
 have := slw_mono 0 d hd (by omega) a b h
 omega
theorem passB_anti (s u d : Int) (hd : 1 ≤ d) (hu : 0 ≤ u) (a b : Int) (h : a ≤ b) (hb : passB s u d b = true) : passB s u d a = true := by
 simp only [passB, Bool.or_eq_true, decide_eq_true_eq] at *
 have := slw_mono u d hd hu a b h
 omega
theorem stopsB_zero (s d : Int) (hs : 0 ≤ s) (hd : 1 ≤ d) : stopsB s d 0 = true := by
 simp only [stopsB, decide_eq_true_eq]; rw [slw_le 0 0 d (by omega)]; omega
theorem passB_zero (s u d : Int) (hu : 0 ≤ u) : passB s u d 0 = true := by
 simp only [passB, Bool.or_eq_true, decide_eq_true_eq]; exact .inl hu

theorem rch_bd (s d : Int) : 0 ≤ rch s d ∧ rch s d ≤ 1048576 := grt_bd _ _
theorem pas_bd (s u d : Int) : 0 ≤ pas s u d ∧ pas s u d ≤ 1048576 := grt_bd _ _
theorem rch_stops (s d : Int) (hs : 0 ≤ s) (hd : 1 ≤ d) : rch s d + slw (rch s d) 0 d ≤ s := by
 have := grt_holds (stopsB s d) (stopsB_zero s d hs hd) 1048576
 simp only [stopsB, decide_eq_true_eq] at this
 exact this
theorem rch_above (s d x : Int) (h : rch s d < x) (hx : x ≤ 1048576) : s < x + slw x 0 d := by
 have := grt_above (stopsB s d) 1048576 x h hx
 simpa only [stopsB, decide_eq_false_iff_not, Int.not_le] using this
theorem rch_iff (s d v : Int) (hs : 0 ≤ s) (hd : 1 ≤ d) (hv : v ≤ 1048576) : v ≤ rch s d ↔ v + slw v 0 d ≤ s := by
 constructor
 ·intro h
  have h1 := rch_stops s d hs hd
  have h2 := slw_mono 0 d hd (by omega) v _ h
  omega
 ·intro h
  by_cases c : v ≤ rch s d
  ·exact c
  ·have := rch_above s d v (by omega) hv
   omega
end Go.Proofs.YthhfnageadckkaaGreat
