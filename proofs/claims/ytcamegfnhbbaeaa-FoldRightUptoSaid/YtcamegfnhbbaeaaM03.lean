/- Merged: Plain numbers: roots; quotients rounded down. No program in sight. Contracts of layer 1: the root. The plain arithmetic of a division of 128 bits by 64, digit by digit of 32 bits. No program in sight. -/
import Derived.Test.YtcamegfnhbbaeaaQB
import Derived.Lib.ItoaNum
import Derived.Lib.BitFns
namespace Go.Proofs.Ytcamegfnhbbaeaa
set_option linter.unusedVariables false
set_option linter.unusedSimpArgs false

/-- r is the root of n, rounded down -/
def IsRoot (n r : Int) : Prop := 0 ≤ r ∧ r * r ≤ n ∧ n < (r + 1) * (r + 1)
/-- no root is above x -/
def NotAbove (n x : Int) : Prop := ∀ r, 0 ≤ r → r * r ≤ n → r ≤ x

theorem root_below {n r x : Int} (h : IsRoot n r) (hx : 0 ≤ x) (hxx : x * x ≤ n) : x ≤ r := by
  by_cases c : x ≤ r
  · exact c
  · have h1 : (r + 1) * (r + 1) ≤ x * x := Int.mul_le_mul (by omega) (by omega) (by have := h.1; omega) hx
    have := h.2.2
    omega
theorem root_one {n r s : Int} (h : IsRoot n r) (h2 : IsRoot n s) : r = s := by
  have h3 := root_below h h2.1 h2.2.1
  have h4 := root_below h2 h.1 h.2.1
  omega
theorem root_some (n : Int) (hn : 0 ≤ n) : ∃ r, IsRoot n r := by
  obtain ⟨k, rfl⟩ := Int.eq_ofNat_of_zero_le hn
  clear hn
  induction k with
  | zero => exact ⟨0, by unfold IsRoot; omega⟩
  | succ k ih =>
    obtain ⟨r, h0, h1, h2⟩ := ih
    by_cases c : ((k + 1 : Nat) : Int) < (r + 1) * (r + 1)
    · exact ⟨r, h0, by omega, c⟩
    · refine ⟨r + 1, by omega, by omega, ?_⟩
      have : (r + 1 + 1) * (r + 1 + 1) = (r + 1) * (r + 1) + 2 * r + 3 := by
        rw [Int.add_mul (r + 1) 1, Int.mul_add (r + 1) (r + 1) 1, Int.mul_one, Int.one_mul]
        omega
      omega
theorem above_root {n r x : Int} (h : IsRoot n r) (ha : NotAbove n x) : r ≤ x := ha r h.1 h.2.1
/-- a step of Newton's from above -/
theorem newton {n x : Int} (hn : 0 ≤ n) (hx : 1 ≤ x) (h : NotAbove n x) : NotAbove n ((x + n / x) / 2) := by
  intro r hr hrr
  have h1 : (2 * r - x) * x ≤ r * r := by
    have h2 : 0 ≤ (r - x) * (r - x) := by
      by_cases c : 0 ≤ r - x
      · exact Int.mul_nonneg c c
      · have := Int.mul_nonneg (show 0 ≤ -(r - x) by omega) (show 0 ≤ -(r - x) by omega)
        rwa [Int.neg_mul_neg] at this
    rw [Int.sub_mul, Int.mul_sub, Int.mul_sub, Int.mul_comm x r] at h2
    rw [Int.sub_mul, Int.mul_assoc]
    omega
  have h3 : 2 * r - x ≤ n / x := (Int.le_ediv_iff_mul_le (by omega)).2 (by omega)
  omega
theorem newton_stop {n r x : Int} (hn : 0 ≤ n) (hx : 1 ≤ x) (h : NotAbove n x) (hr : IsRoot n r) (hy : x ≤ (x + n / x) / 2) : x = r := by
  have h1 : x ≤ n / x := by omega
  have h2 : x * x ≤ n := (Int.le_ediv_iff_mul_le (by omega)).1 h1
  have h3 := root_below hr (by omega) h2
  have h4 := above_root hr h
  omega
theorem newton_pos {n x : Int} (hn : 1 ≤ n) (hx : 1 ≤ x) (h : NotAbove n x) : 1 ≤ (x + n / x) / 2 := newton (by omega) hx h 1 (by omega) (by omega)
theorem notAbove_pow (n : Int) (x : Int) (hx : 0 ≤ x) (h : n ≤ x * x) : NotAbove n x := by
  intro r hr hrr
  by_cases c : r ≤ x
  · exact c
  · have h1 : (x + 1) * (x + 1) ≤ r * r := Int.mul_le_mul (by omega) (by omega) (by omega) hr
    rw [Int.add_mul, Int.mul_add] at h1
    omega
theorem root_bd {n r : Int} (h : IsRoot n r) (hn : n ≤ 9223372036854775807) : 0 ≤ r ∧ r ≤ 3037000499 := by
  refine ⟨h.1, ?_⟩
  by_cases c : r ≤ 3037000499
  · exact c
  · have : 3037000500 * 3037000500 ≤ r * r := Int.mul_le_mul (by omega) (by omega) (by omega) h.1
    have := h.2.1
    omega

end Go.Proofs.Ytcamegfnhbbaeaa

namespace Go.Proofs.Ytcamegfnhbbaeaa
open Go.RowKit
set_option linter.unusedVariables false
set_option linter.unusedSimpArgs false
attribute [local go_sem] ite_max ite_min vite_max vite_min



/-- the first guess is above the root -/
theorem guess_above (n : Int) (L : Nat) (hn : 1 ≤ n ∧ n ≤ 9223372036854775807) (h : Lib.bitLen n.toNat = L) : L ≤ 63 ∧ NotAbove n ((2 ^ ((L + 1) / 2) : Nat) : Int) ∧ 1 ≤ ((2 ^ ((L + 1) / 2) : Nat) : Int) ∧ ((2 ^ ((L + 1) / 2) : Nat) : Int) ≤ 4294967296 := by
  have h63 : L ≤ 63 := by
    rw [← h]
    exact Lib.bitLen_le _ _ (by omega) (by omega)
  have hb : n.toNat < 2 ^ L := by
    have := Lib.bitLenAux_bounds 64 n.toNat (by omega) (by omega)
    have h2 : Lib.bitLenAux 64 n.toNat = L := h
    rw [h2] at this
    exact this.2.2
  refine ⟨h63, notAbove_pow _ _ (Int.natCast_nonneg _) ?_, ?_, ?_⟩
  · have h1 : (2 : Nat) ^ L ≤ 2 ^ ((L + 1) / 2 + (L + 1) / 2) := Nat.pow_le_pow_right (by omega) (by omega)
    rw [Nat.pow_add] at h1
    have h2 : n.toNat ≤ 2 ^ ((L + 1) / 2) * 2 ^ ((L + 1) / 2) := by omega
    have h3 : ((n.toNat : Nat) : Int) ≤ ((2 ^ ((L + 1) / 2) * 2 ^ ((L + 1) / 2) : Nat) : Int) := Int.ofNat_le.2 h2
    rw [Int.natCast_mul, Int.toNat_of_nonneg (by omega)] at h3
    exact h3
  · have := Nat.pow_pos (n := (L + 1) / 2) (show 0 < 2 by omega)
    omega
  · have : (2 : Nat) ^ ((L + 1) / 2) ≤ 2 ^ 32 := Nat.pow_le_pow_right (by omega) (by omega)
    omega

theorem guess_int (n : Int) (L : Nat) (hn : 1 ≤ n ∧ n ≤ 9223372036854775807) (h : Lib.bitLen n.toNat = L) : ∃ X : Int, IntKind.u64.wrap ((2 : Int) ^ ((L + 1) / 2)) = X ∧ L ≤ 63 ∧ NotAbove n X ∧ 1 ≤ X ∧ X ≤ 4294967296 := by
  obtain ⟨h1, h2, h3, h4⟩ := guess_above n L hn h
  refine ⟨_, ?_, h1, h2, h3, h4⟩
  have e : ((2 : Int) ^ ((L + 1) / 2)) = ((2 ^ ((L + 1) / 2) : Nat) : Int) := by rw [Int.natCast_pow]; rfl
  rw [e]
  exact IntWalk.u64_in _ ⟨by omega, by omega⟩





end Go.Proofs.Ytcamegfnhbbaeaa

namespace Go.Proofs.Ytcamegfnhbbaeaa
set_option linter.unusedVariables false
set_option linter.unusedSimpArgs false

theorem dg_mul (q y1 y0 : Int) : q * (y1 * 4294967296 + y0) = (q * y1) * 4294967296 + q * y0 := by rw [Int.mul_add, Int.mul_assoc]

/-- one digit: what is asked of the parts -/
structure Dg (N n1 y1 y0 : Int) : Prop where
  hN : 0 ≤ N
  hn : 0 ≤ n1 ∧ n1 < 4294967296
  h1 : 2147483648 ≤ y1 ∧ y1 < 4294967296
  h0 : 0 ≤ y0 ∧ y0 < 4294967296
  hlt : N < y1 * 4294967296 + y0

/-- the digit -/
def dgQ (N n1 y1 y0 : Int) : Int := (N * 4294967296 + n1) / (y1 * 4294967296 + y0)
def dgR (N n1 y1 y0 : Int) : Int := (N * 4294967296 + n1) % (y1 * 4294967296 + y0)

theorem dgQ_bd {N n1 y1 y0 : Int} (h : Dg N n1 y1 y0) : 0 ≤ dgQ N n1 y1 y0 ∧ dgQ N n1 y1 y0 < 4294967296 := by
  obtain ⟨hN, hn, h1, h0, hlt⟩ := h
  exact ⟨Int.ediv_nonneg (by omega) (by omega), Int.ediv_lt_of_lt_mul (by omega) (by omega)⟩
theorem dgR_bd {N n1 y1 y0 : Int} (h : Dg N n1 y1 y0) : 0 ≤ dgR N n1 y1 y0 ∧ dgR N n1 y1 y0 < y1 * 4294967296 + y0 := by
  obtain ⟨hN, hn, h1, h0, hlt⟩ := h
  exact ⟨Int.emod_nonneg _ (by omega), Int.emod_lt_of_pos _ (by omega)⟩
theorem dg_eq (N n1 y1 y0 : Int) : N * 4294967296 + n1 = dgQ N n1 y1 y0 * (y1 * 4294967296 + y0) + dgR N n1 y1 y0 := by
  have := Int.mul_ediv_add_emod (N * 4294967296 + n1) (y1 * 4294967296 + y0)
  rw [Int.mul_comm] at this
  exact this.symm

theorem dg_start {N n1 y1 y0 : Int} (h : Dg N n1 y1 y0) : dgQ N n1 y1 y0 ≤ N / y1 ∧ N / y1 ≤ 4294967297 ∧ N / y1 * y1 + N % y1 = N ∧ 0 ≤ N % y1 ∧ N % y1 < y1 := by
  have hb := dgQ_bd h
  have he := dg_eq N n1 y1 y0
  have hr := dgR_bd h
  obtain ⟨hN, hn, h1, h0, hlt⟩ := h
  rw [dg_mul] at he
  have hp : 0 ≤ dgQ N n1 y1 y0 * y0 := Int.mul_nonneg hb.1 h0.1
  have hd := Int.mul_ediv_add_emod N y1
  rw [Int.mul_comm] at hd
  refine ⟨?_, ?_, hd, Int.emod_nonneg _ (by omega), Int.emod_lt_of_pos _ (by omega)⟩
  · exact (Int.le_ediv_iff_mul_le (by omega)).2 (by omega)
  · have : N / y1 < 4294967298 := Int.ediv_lt_of_lt_mul (by omega) (by omega)
    omega

/-- at the loop's head -/
structure DgIn (N n1 y1 y0 q r : Int) : Prop where
  e : q * y1 + r = N
  lo : dgQ N n1 y1 y0 ≤ q
  hi : q ≤ 4294967297
  r0 : 0 ≤ r
  r1 : r < 4294967296

theorem dg_stop {N n1 y1 y0 q r : Int} (h : Dg N n1 y1 y0) (hi : q * y1 + r = N) (lo : dgQ N n1 y1 y0 ≤ q) (hy : q * y0 ≤ 4294967296 * r + n1) : q = dgQ N n1 y1 y0 := by
  obtain ⟨hN, hn, h1, h0, hlt⟩ := h
  have h2 : q ≤ dgQ N n1 y1 y0 := (Int.le_ediv_iff_mul_le (by omega)).2 (by rw [dg_mul]; omega)
  omega
theorem dg_down {N n1 y1 y0 q r : Int} (h : Dg N n1 y1 y0) (hi : DgIn N n1 y1 y0 q r) (ht : 4294967296 ≤ q ∨ 4294967296 * r + n1 < q * y0) : (q - 1) * y1 + (r + y1) = N ∧ dgQ N n1 y1 y0 ≤ q - 1 := by
  have hb := dgQ_bd h
  obtain ⟨hN, hn, h1, h0, hlt⟩ := h
  obtain ⟨e, lo, hi, r0, r1⟩ := hi
  refine ⟨by rw [Int.sub_mul]; omega, ?_⟩
  rcases ht with ht | ht
  · omega
  · have : dgQ N n1 y1 y0 < q := Int.ediv_lt_of_lt_mul (by omega) (by rw [dg_mul]; omega)
    omega
/-- out by the break: the rest is 2^32 or more -/
theorem dg_break {N n1 y1 y0 q r : Int} (h : Dg N n1 y1 y0) (hi : DgIn N n1 y1 y0 q r) (ht : 4294967296 ≤ q ∨ 4294967296 * r + n1 < q * y0) (hr : 4294967296 ≤ r + y1) : q - 1 = dgQ N n1 y1 y0 := by
  obtain ⟨e, lo⟩ := dg_down h hi ht
  refine dg_stop h e lo ?_
  obtain ⟨hN, hn, h1, h0, hlt⟩ := h
  have h2 : (q - 1) * y0 ≤ 4294967296 * y0 := Int.mul_le_mul_of_nonneg_right (by have := hi.hi; omega) h0.1
  omega
theorem dg_on {N n1 y1 y0 q r : Int} (h : Dg N n1 y1 y0) (hi : DgIn N n1 y1 y0 q r) (ht : 4294967296 ≤ q ∨ 4294967296 * r + n1 < q * y0) (hr : r + y1 < 4294967296) : DgIn N n1 y1 y0 (q - 1) (r + y1) := by
  obtain ⟨e, lo⟩ := dg_down h hi ht
  exact ⟨e, lo, by have := hi.hi; omega, by have := hi.r0; have := h.h1; omega, hr⟩
theorem dg_small {N n1 y1 y0 q r : Int} (h : Dg N n1 y1 y0) (hi : DgIn N n1 y1 y0 q r) (hq : q < 4294967296) : 0 ≤ q ∧ 0 ≤ q * y0 ∧ q * y0 ≤ 18446744065119617025 := by
  have hb := dgQ_bd h
  have hq0 : 0 ≤ q := by have := hi.lo; omega
  obtain ⟨hN, hn, h1, h0, hlt⟩ := h
  refine ⟨hq0, Int.mul_nonneg hq0 h0.1, ?_⟩
  have : q * y0 ≤ 4294967295 * 4294967295 := Int.mul_le_mul (by omega) (by omega) h0.1 (by omega)
  omega

/-- two digits -/
theorem two_digits (N n1 n0 y1 y0 : Int) (h : Dg N n1 y1 y0) (hn0 : 0 ≤ n0 ∧ n0 < 4294967296) :
    Dg (dgR N n1 y1 y0) n0 y1 y0 ∧ (N * 18446744073709551616 + (n1 * 4294967296 + n0)) / (y1 * 4294967296 + y0) = dgQ N n1 y1 y0 * 4294967296 + dgQ (dgR N n1 y1 y0) n0 y1 y0 ∧
    (N * 18446744073709551616 + (n1 * 4294967296 + n0)) % (y1 * 4294967296 + y0) = dgR (dgR N n1 y1 y0) n0 y1 y0 := by
  have hr := dgR_bd h
  have hq := dgQ_bd h
  have he := dg_eq N n1 y1 y0
  have h2 : Dg (dgR N n1 y1 y0) n0 y1 y0 := ⟨hr.1, hn0, h.h1, h.h0, hr.2⟩
  have hr2 := dgR_bd h2
  have he2 := dg_eq (dgR N n1 y1 y0) n0 y1 y0
  refine ⟨h2, ?_⟩
  have hD := h.h1
  have hD0 := h.h0
  generalize dgR (dgR N n1 y1 y0) n0 y1 y0 = R2 at hr2 he2 ⊢
  generalize dgQ (dgR N n1 y1 y0) n0 y1 y0 = Q2 at he2 ⊢
  clear h2
  generalize dgR N n1 y1 y0 = R at hr he he2
  generalize dgQ N n1 y1 y0 = Q at he hq ⊢
  obtain ⟨D, hDD⟩ : ∃ D, y1 * 4294967296 + y0 = D := ⟨_, rfl⟩
  rw [hDD] at hr he hr2 he2 ⊢
  have key : N * 18446744073709551616 + (n1 * 4294967296 + n0) = R2 + (Q * 4294967296 + Q2) * D := by
    rw [Int.add_mul, Int.mul_right_comm]
    omega
  rw [key]
  refine ⟨?_, ?_⟩
  · rw [Int.add_mul_ediv_right _ _ (by omega), Int.ediv_eq_zero_of_lt hr2.1 hr2.2]
    omega
  · rw [Int.add_mul_emod_self_right, Int.emod_eq_of_lt hr2.1 hr2.2]

/-- the number and the divisor, moved by S = 2^s -/
theorem moved (a y S : Int) (hy : 0 < y) (hS : 0 < S) : (a * S) / (y * S) = a / y ∧ (a * S) % (y * S) / S = a % y := by
  have h1 : (a * S) / (y * S) = a / y := Int.mul_ediv_mul_of_pos_left _ _ hS
  refine ⟨h1, ?_⟩
  rw [Int.emod_def, h1, Int.emod_def, show a * S - y * S * (a / y) = (a - y * (a / y)) * S by rw [Int.sub_mul, Int.mul_right_comm], Int.mul_ediv_cancel _ (by omega)]

/-- what is made ready: the divisor with its highest bit set, the number moved alike -/
structure Ready (hi lo y S T : Int) : Prop where
  h : 1 ≤ hi ∧ hi < y
  l : 0 ≤ lo ∧ lo < 18446744073709551616
  s : 1 ≤ S
  st : T * S = 18446744073709551616
  y1 : 9223372036854775808 ≤ y * S
  y2 : y * S < 18446744073709551616

theorem ready_parts {hi lo y S T : Int} (h : Ready hi lo y S T) :
    0 ≤ lo / T ∧ lo / T < S ∧ 0 ≤ hi * S ∧ hi * S + lo / T < y * S ∧ (hi * 18446744073709551616 + lo) * S = (hi * S + lo / T) * 18446744073709551616 + (lo * S) % 18446744073709551616 := by
  obtain ⟨hh, hl, hs, hst, hy1, hy2⟩ := h
  have hT : 0 < T := by
    by_cases c : 0 < T
    · exact c
    · have : T * S ≤ 0 * S := Int.mul_le_mul_of_nonneg_right (by omega) (by omega)
      omega
  have h1 : lo * S / 18446744073709551616 = lo / T := by rw [← hst, Int.mul_ediv_mul_of_pos_left _ _ (by omega)]
  have h2 := Int.mul_ediv_add_emod (lo * S) 18446744073709551616
  rw [h1] at h2
  have h3 := Int.emod_nonneg (lo * S) (show (18446744073709551616 : Int) ≠ 0 by omega)
  have h4 : 0 ≤ lo / T := Int.ediv_nonneg (by omega) (by omega)
  have h5 : lo / T < S := Int.ediv_lt_of_lt_mul hT (by rw [Int.mul_comm]; omega)
  have h6 : 0 ≤ hi * S := Int.mul_nonneg (by omega) (by omega)
  have h7 : (hi * 18446744073709551616 + lo) * S = (hi * S + lo / T) * 18446744073709551616 + (lo * S) % 18446744073709551616 := by
    rw [Int.add_mul, Int.mul_right_comm]
    omega
  have h8 : (hi * 18446744073709551616 + lo) * S < (y * 18446744073709551616) * S := Int.mul_lt_mul_of_pos_right (by omega) (by omega)
  rw [Int.mul_right_comm] at h8
  refine ⟨h4, h5, h6, ?_, h7⟩
  omega

theorem ready_dg {hi lo y S T N Y Lo y1 y0 n1 n0 : Int} (h : Ready hi lo y S T) (hN : hi * S + lo / T = N) (hY : y * S = Y) (hLo : (lo * S) % 18446744073709551616 = Lo)
    (e1 : Y / 4294967296 = y1) (e0 : Y % 4294967296 = y0) (f1 : Lo / 4294967296 = n1) (f0 : Lo % 4294967296 = n0) :
    Dg N n1 y1 y0 ∧ (0 ≤ n0 ∧ n0 < 4294967296) ∧ y1 * 4294967296 + y0 = Y ∧ (hi * 18446744073709551616 + lo) * S = N * 18446744073709551616 + (n1 * 4294967296 + n0) := by
  have hp := ready_parts h
  have hy1 := h.y1
  have hy2 := h.y2
  rw [hN, hY, hLo] at hp
  rw [hY] at hy1 hy2
  have h3 := Int.emod_nonneg (lo * S) (show (18446744073709551616 : Int) ≠ 0 by omega)
  have h4 := Int.emod_lt_of_pos (lo * S) (show (0 : Int) < 18446744073709551616 by omega)
  rw [hLo] at h3 h4
  refine ⟨⟨by omega, by omega, by omega, by omega, by omega⟩, by omega, by omega, by omega⟩

theorem ready_end {hi lo y S T N Y Lo y1 y0 n1 n0 : Int} (h : Ready hi lo y S T) (hN : hi * S + lo / T = N) (hY : y * S = Y) (hLo : (lo * S) % 18446744073709551616 = Lo)
    (e1 : Y / 4294967296 = y1) (e0 : Y % 4294967296 = y0) (f1 : Lo / 4294967296 = n1) (f0 : Lo % 4294967296 = n0) :
    (hi * 18446744073709551616 + lo) / y = dgQ N n1 y1 y0 * 4294967296 + dgQ (dgR N n1 y1 y0) n0 y1 y0 ∧ (hi * 18446744073709551616 + lo) % y = dgR (dgR N n1 y1 y0) n0 y1 y0 / S := by
  obtain ⟨hd, hn0, hD, hU⟩ := ready_dg h hN hY hLo e1 e0 f1 f0
  obtain ⟨_, t1, t2⟩ := two_digits N n1 n0 y1 y0 hd hn0
  have hm := moved (hi * 18446744073709551616 + lo) y S (by have := h.h; omega) (by have := h.s; omega)
  rw [hU, hY, ← hD, t1, t2] at hm
  exact ⟨hm.1.symm, hm.2.symm⟩

end Go.Proofs.Ytcamegfnhbbaeaa
