/- Merged: Contracts of layer 1: products, quotients, rests, clamped numbers. Plain numbers: roots; quotients rounded down. No program in sight. Contracts of layer 1: the root. The plain arithmetic of a division of 128 bits by 64, digit by digit of 32 bits. No program in sight. Contracts of layer 1: the division of 128 bits by 64. Contracts of layer 1: the division of 128 bits by 64, of a number that has a high part. Contracts of layer 1: a product by a number, rounded down; the fixed answers. Layer 1: the fixed answers; contracts by equations. Plain numbers: sizes of 128 bits in four parts of 32. No program in sight. Contracts of the reference of layer 1: a size and its sign, in four parts. Contracts of the reference of layer 1: differences of sizes. Contracts of the reference of layer 1: which size is greater. Contracts of the reference of layer 1: zero, turned, room. Contracts of the reference of layer 1: two numbers together; sums and differences. Contracts of the reference of layer 1: Add, Sub. Plain numbers: products of sizes, part by part. No program in sight. Contracts of the reference of layer 1: a product. Plain numbers: a quotient, bit by bit. No program in sight. Contracts of the reference of layer 1: a quotient and its rest, bit by bit. Contracts of the reference of layer 1: products, quotients and rests of two numbers. Contracts of layer 21: operations of numbers and truths. -/
import Derived.Test.YtahjijdadifkaaaDoorM09
import Derived.Test.YtahjijdadifkaaaDoorShelf
import Derived.Lib.ItoaNum
import Derived.Lib.BitFns
import Derived.Test.YtahjijdadifkaaaDoorM00
import Derived.RegionTactic
import Derived.Test.YtahjijdadifkaaaDoorWild
import Derived.Deep.DeepCutAuto
set_option linter.unusedVariables false
set_option linter.unusedSimpArgs false
set_option maxHeartbeats 4000000
namespace Go.Proofs.YtahjijdadifkaaaDoor
open Go.RowKit
attribute [local go_sem] ite_max ite_min vite_max vite_min

theorem qsigned_any (n x : Int) (m : Bool) (w : World) (hn : 0 ≤ n ∧ n ≤ 18446744073709551615) (hx : (m = true ∧ -n = x) ∨ (m = false ∧ n = x)) :
  Calls Tryd.prog 69 #[.int .u64 n, .bool m] w fun e w' => e = .returned (.tuple #[.int .i64 (fitV x), .bool (fitB x)]) ∧ w = w' := by
 rcases hx with ⟨rfl, hx⟩ | ⟨rfl, hx⟩
 all_goals subst hx
 ·by_cases h : n ≤ 9223372036854775808
  ·rw [fitV_yes (by omega), fitB_yes (by omega)]
   obtain ⟨t, ht⟩ : ∃ t, IntKind.i64.wrap n = t := ⟨_, rfl⟩
   have h2 : IntKind.i64.wrap (-t) = -n := by
    rw [← ht, IntKind.wrap_i64, IntKind.wrap_i64]
    omega
   go_enter Tryd.func69, Tryd.ntmps69
   go_wp2
   go_ret2
   exact ⟨rfl, rfl⟩
  ·rw [fitV_no (by omega), fitB_no (by omega)]
   go_enter Tryd.func69, Tryd.ntmps69
   go_wp2
   go_ret2
   exact ⟨rfl, rfl⟩
 ·by_cases h : n ≤ 9223372036854775807
  ·rw [fitV_yes (by omega), fitB_yes (by omega)]
   go_enter Tryd.func69, Tryd.ntmps69
   go_wp2
   go_ret2
   exact ⟨rfl, rfl⟩
  ·rw [fitV_no (by omega), fitB_no (by omega)]
   go_enter Tryd.func69, Tryd.ntmps69
   go_wp2
   go_ret2
   exact ⟨rfl, rfl⟩

theorem mul64_at (x y hi lo : Int) (w : World) (hx : 0 ≤ x ∧ x ≤ 18446744073709551615) (hy : 0 ≤ y ∧ y ≤ 18446744073709551615) (h1 : x * y / 18446744073709551616 = hi) (h2 : x * y % 18446744073709551616 = lo) :
  Calls Tryd.prog 67 #[.int .u64 x, .int .u64 y] w fun e w' => e = .returned (.tuple #[.int .u64 hi, .int .u64 lo]) ∧ w = w' := by
 obtain ⟨a, rfl⟩ := Int.eq_ofNat_of_zero_le hx.1
 obtain ⟨b, rfl⟩ := Int.eq_ofNat_of_zero_le hy.1
 refine (Tryd.bits_Mul64 a b (by omega) (by omega) w).mono ?_
 rintro e w' ⟨rfl, rfl⟩
 subst h1
 subst h2
 refine ⟨?_, rfl⟩
 simp

theorem size_mul (a b : Int) : ((decide (a < 0) != decide (b < 0)) = true ∧ a * b = -(max a (-a) * max b (-b))) ∨ ((decide (a < 0) != decide (b < 0)) = false ∧ a * b = max a (-a) * max b (-b)) := by
 by_cases ha : a < 0
 all_goals by_cases hb : b < 0
 ·refine .inr ⟨by simp [ha, hb], ?_⟩
  rw [show max a (-a) = -a by omega, show max b (-b) = -b by omega, Int.neg_mul_neg]
 ·refine .inl ⟨by simp [ha, hb], ?_⟩
  rw [show max a (-a) = -a by omega, show max b (-b) = b by omega, Int.neg_mul, Int.neg_neg]
 ·refine .inl ⟨by simp [ha, hb], ?_⟩
  rw [show max a (-a) = a by omega, show max b (-b) = -b by omega, Int.mul_neg, Int.neg_neg]
 ·refine .inr ⟨by simp [ha, hb], ?_⟩
  rw [show max a (-a) = a by omega, show max b (-b) = b by omega]
theorem size_bd (a b : Int) (ha : -9223372036854775808 ≤ a ∧ a ≤ 9223372036854775807) (hb : -9223372036854775808 ≤ b ∧ b ≤ 9223372036854775807) :
  0 ≤ max a (-a) * max b (-b) ∧ max a (-a) * max b (-b) ≤ 85070591730234615865843651857942052864 := by
 refine ⟨Int.mul_nonneg (by omega) (by omega), ?_⟩
 have : max a (-a) * max b (-b) ≤ 9223372036854775808 * 9223372036854775808 := Int.mul_le_mul (by omega) (by omega) (by omega) (by omega)
 omega

theorem qmul_any (a b : Int) (w : World) (ha : -9223372036854775808 ≤ a ∧ a ≤ 9223372036854775807) (hb : -9223372036854775808 ≤ b ∧ b ≤ 9223372036854775807) :
  Calls Tryd.prog 48 #[.int .i64 a, .int .i64 b] w fun e w' => e = .returned (.tuple #[.int .i64 (fitV (a * b)), .bool (fitB (a * b))]) ∧ w = w' := by
 have hs := size_mul a b
 have hz := size_bd a b ha hb
 obtain ⟨P, hP⟩ : ∃ P, a * b = P := ⟨_, rfl⟩
 obtain ⟨M, hM⟩ : ∃ M, max a (-a) * max b (-b) = M := ⟨_, rfl⟩
 rw [hP] at hs ⊢
 rw [hM] at hs hz
 have HM := Lib.hid hM
 clear hP hM
 obtain ⟨sg, hsg⟩ : ∃ sg, (decide (a < 0) != decide (b < 0)) = sg := ⟨_, rfl⟩
 rw [hsg] at hs
 cases A : decide (a < 0)
 all_goals cases B : decide (b < 0)
 all_goals rw [A, B] at hsg
 all_goals subst hsg
 all_goals
  by_cases hf : M < 18446744073709551616
  ·have d1 : M / 18446744073709551616 = 0 := by omega
   have d2 : M % 18446744073709551616 = M := by omega
   have D1 := Lib.hid d1
   have D2 := Lib.hid d2
   have HS := Lib.hid hs
   clear d1 d2 hs
   go_enter Tryd.func48, Tryd.ntmps48
   go_wp2_with fail
   refine (qsize_any _ _ ha).mono ?_
   rintro e w1 ⟨rfl, rfl⟩
   go_wp2_with fail
   refine (qsize_any _ _ hb).mono ?_
   rintro e w1 ⟨rfl, rfl⟩
   go_wp2_with fail
   refine (mul64_at _ _ 0 M _ (by omega) (by omega) (by rw [HM.out]; exact D1.out) (by rw [HM.out]; exact D2.out)).mono ?_
   rintro e w1 ⟨rfl, rfl⟩
   go_wp2_with fail
   refine (qsigned_any M P _ _ (by omega) ?_).mono ?_
   ·have := HS.out; simp at this ⊢; omega
   rintro e w1 ⟨rfl, rfl⟩
   go_wp2
   go_ret2
   exact ⟨rfl, rfl⟩
  ·have d1 : (M / 18446744073709551616 != 0) = true := by
    rw [bne_iff_ne]
    omega
   obtain ⟨hi, hhi⟩ : ∃ hi, M / 18446744073709551616 = hi := ⟨_, rfl⟩
   obtain ⟨lo, hlo⟩ : ∃ lo, M % 18446744073709551616 = lo := ⟨_, rfl⟩
   rw [hhi] at d1
   have D1 := Lib.hid hhi
   have D2 := Lib.hid hlo
   have nf : ¬ (-9223372036854775808 ≤ P ∧ P ≤ 9223372036854775807) := by omega
   rw [fitV_no nf, fitB_no nf]
   clear hhi hlo hs nf
   go_enter Tryd.func48, Tryd.ntmps48
   go_wp2_with fail
   refine (qsize_any _ _ ha).mono ?_
   rintro e w1 ⟨rfl, rfl⟩
   go_wp2_with fail
   refine (qsize_any _ _ hb).mono ?_
   rintro e w1 ⟨rfl, rfl⟩
   go_wp2_with fail
   refine (mul64_at _ _ hi lo _ (by omega) (by omega) (by rw [HM.out]; exact D1.out) (by rw [HM.out]; exact D2.out)).mono ?_
   rintro e w1 ⟨rfl, rfl⟩
   go_wp2
   go_ret2
   exact ⟨rfl, rfl⟩

def divE (a b : Int) : Int := if b = 0 then 3 else if a = -9223372036854775808 ∧ b = -1 then 2 else 0
def divV (a b : Int) : Int := if divE a b = 0 then a.tdiv b else 0
theorem tdiv_bd (a b : Int) (ha : -9223372036854775808 ≤ a ∧ a ≤ 9223372036854775807) (hb : b ≠ 0) (hn : ¬ (a = -9223372036854775808 ∧ b = -1)) : -9223372036854775808 ≤ a.tdiv b ∧ a.tdiv b ≤ 9223372036854775807 := by
 by_cases h1 : b = 1
 ·rw [h1, Int.tdiv_one]
  exact ha
 ·by_cases h2 : b = -1
  ·rw [h2, Int.tdiv_neg, Int.tdiv_one]
   omega
  ·have h3 : (a.tdiv b).natAbs = a.natAbs / b.natAbs := Int.natAbs_tdiv ..
   have h4 : a.natAbs / b.natAbs ≤ a.natAbs / 2 := Nat.div_le_div_left (by omega) (by omega)
   omega

theorem qdiv_any (a b : Int) (w : World) (ha : -9223372036854775808 ≤ a ∧ a ≤ 9223372036854775807) (hb : -9223372036854775808 ≤ b ∧ b ≤ 9223372036854775807) :
  Calls Tryd.prog 49 #[.int .i64 a, .int .i64 b] w fun e w' => e = .returned (.tuple #[.int .i64 (divV a b), .int .i64 (divE a b)]) ∧ w = w' := by
 by_cases b0 : b = 0
 ·subst b0
  rw [show divV a 0 = 0 from rfl, show divE a 0 = 3 from rfl]
  go_enter Tryd.func49, Tryd.ntmps49
  go_wp2
  go_ret2
  exact ⟨rfl, rfl⟩
 ·have q0 : (b == 0) = false := by simpa using b0
  by_cases hn : a = -9223372036854775808 ∧ b = -1
  ·obtain ⟨rfl, rfl⟩ := hn
   rw [show divV (-9223372036854775808) (-1) = 0 from rfl, show divE (-9223372036854775808) (-1) = 2 from rfl]
   go_enter Tryd.func49, Tryd.ntmps49
   go_wp2
   go_ret2
   exact ⟨rfl, rfl⟩
  ·have e1 : divE a b = 0 := by unfold divE; rw [if_neg b0, if_neg hn]
   have e2 : divV a b = a.tdiv b := by unfold divV; rw [if_pos e1]
   rw [e1, e2]
   have hq := tdiv_bd a b ha b0 hn
   obtain ⟨q, hq2⟩ : ∃ q, a.tdiv b = q := ⟨_, rfl⟩
   rw [hq2] at hq ⊢
   have hq3 : IntKind.i64.wrap (a.tdiv b) = q := by rw [hq2]; exact IntWalk.i64_in _ hq
   cases q1 : (a == -9223372036854775808)
   all_goals cases q2 : (b == -1)
   all_goals first
    | (exfalso; simp at q1 q2; omega)
    | skip
   all_goals
    clear e1 e2 hn hq2
    go_enter Tryd.func49, Tryd.ntmps49
    go_wp2
    go_ret2
    exact ⟨rfl, rfl⟩

def modE (b : Int) : Int := if b = 0 then 3 else 0
def modV (a b : Int) : Int := if b = 0 then 0 else a.tmod b
theorem tmod_bd (a b : Int) (ha : -9223372036854775808 ≤ a ∧ a ≤ 9223372036854775807) : -9223372036854775808 ≤ a.tmod b ∧ a.tmod b ≤ 9223372036854775807 := by
 have h3 : (a.tmod b).natAbs = a.natAbs % b.natAbs := Int.natAbs_tmod ..
 have h4 := Nat.mod_le a.natAbs b.natAbs
 have h5 : 0 ≤ a → 0 ≤ a.tmod b := fun h => Int.tmod_nonneg b h
 have h6 : a ≤ 0 → a.tmod b ≤ 0 := fun h => by
  have := Int.tmod_nonneg b (show 0 ≤ -a by omega)
  rw [Int.neg_tmod] at this
  omega
 omega

theorem qmod_any (a b : Int) (w : World) (ha : -9223372036854775808 ≤ a ∧ a ≤ 9223372036854775807) (hb : -9223372036854775808 ≤ b ∧ b ≤ 9223372036854775807) :
  Calls Tryd.prog 50 #[.int .i64 a, .int .i64 b] w fun e w' => e = .returned (.tuple #[.int .i64 (modV a b), .int .i64 (modE b)]) ∧ w = w' := by
 by_cases b0 : b = 0
 ·subst b0
  rw [show modV a 0 = 0 from rfl, show modE 0 = 3 from rfl]
  go_enter Tryd.func50, Tryd.ntmps50
  go_wp2
  go_ret2
  exact ⟨rfl, rfl⟩
 ·have q0 : (b == 0) = false := by simpa using b0
  have e1 : modE b = 0 := by unfold modE; rw [if_neg b0]
  have e2 : modV a b = a.tmod b := by unfold modV; rw [if_neg b0]
  rw [e1, e2]
  clear e1 e2
  by_cases b1 : b = -1
  ·subst b1
   have e3 : a.tmod (-1) = 0 := by rw [Int.tmod_neg, Int.tmod_one]
   rw [e3]
   clear e3
   go_enter Tryd.func50, Tryd.ntmps50
   go_wp2
   go_ret2
   exact ⟨rfl, rfl⟩
  ·have q1 : (b == -1) = false := by simpa using b1
   have hq := tmod_bd a b ha
   obtain ⟨q, hq2⟩ : ∃ q, a.tmod b = q := ⟨_, rfl⟩
   rw [hq2] at hq ⊢
   have hq3 : IntKind.i64.wrap (a.tmod b) = q := by rw [hq2]; exact IntWalk.i64_in _ hq
   clear b1
   go_enter Tryd.func50, Tryd.ntmps50
   go_wp2
   go_ret2
   exact ⟨rfl, rfl⟩



end Go.Proofs.YtahjijdadifkaaaDoor

namespace Go.Proofs.YtahjijdadifkaaaDoor

end Go.Proofs.YtahjijdadifkaaaDoor

namespace Go.Proofs.YtahjijdadifkaaaDoor
open Go.RowKit
attribute [local go_sem] ite_max ite_min vite_max vite_min



end Go.Proofs.YtahjijdadifkaaaDoor

namespace Go.Proofs.YtahjijdadifkaaaDoor

end Go.Proofs.YtahjijdadifkaaaDoor

namespace Go.Proofs.YtahjijdadifkaaaDoor
open Go.RowKit
attribute [local go_sem] ite_max ite_min vite_max vite_min ext_cell ext_frozen











end Go.Proofs.YtahjijdadifkaaaDoor

namespace Go.Proofs.YtahjijdadifkaaaDoor
open Go.ChangeShapes Go.WideShapes Go.ChangeAt Go.RowKit
attribute [local go_sem] ite_max ite_min vite_max vite_min ext_cell ext_frozen

end Go.Proofs.YtahjijdadifkaaaDoor

namespace Go.Proofs.YtahjijdadifkaaaDoor

def d0 (v : Int) : Int := v % 4294967296
def d1 (v : Int) : Int := v / 4294967296 % 4294967296
def d2 (v : Int) : Int := v / 18446744073709551616 % 4294967296
def d3 (v : Int) : Int := v / 79228162514264337593543950336 % 4294967296

end Go.Proofs.YtahjijdadifkaaaDoor

namespace Go.Proofs.YtahjijdadifkaaaDoor
open Go.RowKit
attribute [local go_sem] ite_max ite_min vite_max vite_min ext_cell ext_frozen



structure wideAt (w : World) (b : Nat) : Prop where
 c0 : w.cell? ⟨b, 0, none⟩ = some (.int .u64 0)
 c1 : w.cell? ⟨b, 1, none⟩ = some (.int .u64 0)
 c2 : w.cell? ⟨b, 2, none⟩ = some (.int .u64 0)
 c3 : w.cell? ⟨b, 3, none⟩ = some (.int .u64 0)
 c4 : w.cell? ⟨b, 4, none⟩ = some (.bool false)
 f : ∀ o, w.frozen? ⟨b, o, none⟩ = false


















def sg (V : Int) (k : Bool) : Int := bif k then -V else V
end Go.Proofs.YtahjijdadifkaaaDoor

namespace Go.Proofs.YtahjijdadifkaaaDoor

end Go.Proofs.YtahjijdadifkaaaDoor

namespace Go.Proofs.YtahjijdadifkaaaDoor
open Go.RowKit
attribute [local go_sem] ite_max ite_min vite_max vite_min ext_cell ext_frozen

structure TmS (w w' : World) (a0 a1 b0 b1 S : Int) (m n : Bool) : Prop where
 be : Below w.heap.size w w'
 sz : w.heap.size + 3 < w'.heap.size
 x0 : w'.cell? ⟨w.heap.size, 0, none⟩ = some (.int .u64 a0)
 x1 : w'.cell? ⟨w.heap.size, 1, none⟩ = some (.int .u64 a1)
 x4 : w'.cell? ⟨w.heap.size, 4, none⟩ = some (.bool m)
 y0 : w'.cell? ⟨w.heap.size + 1, 0, none⟩ = some (.int .u64 b0)
 y1 : w'.cell? ⟨w.heap.size + 1, 1, none⟩ = some (.int .u64 b1)
 y4 : w'.cell? ⟨w.heap.size + 1, 4, none⟩ = some (.bool n)
 r : wideAt w' (w.heap.size + 2)
 o0 : w'.cell? ⟨w.heap.size + 3, 0, none⟩ = some (.int .u64 (d0 S))
 o1 : w'.cell? ⟨w.heap.size + 3, 1, none⟩ = some (.int .u64 (d1 S))
 o2 : w'.cell? ⟨w.heap.size + 3, 2, none⟩ = some (.int .u64 (d2 S))
 o3 : w'.cell? ⟨w.heap.size + 3, 3, none⟩ = some (.int .u64 (d3 S))
 o4 : w'.cell? ⟨w.heap.size + 3, 4, none⟩ = some (.bool false)
 of : ∀ o, w'.frozen? ⟨w.heap.size + 3, o, none⟩ = false
theorem wideAt.below {w w' : World} {b : Nat} (h : wideAt w b) (hb : b < w.heap.size) (hw : Below w.heap.size w w') : wideAt w' b :=
 ⟨(hw.cell (p := ⟨b, 0, none⟩) hb).trans h.c0, (hw.cell (p := ⟨b, 1, none⟩) hb).trans h.c1, (hw.cell (p := ⟨b, 2, none⟩) hb).trans h.c2, (hw.cell (p := ⟨b, 3, none⟩) hb).trans h.c3, (hw.cell (p := ⟨b, 4, none⟩) hb).trans h.c4, fun o => (hw.frozen (p := ⟨b, o, none⟩) hb).trans (h.f o)⟩
theorem TmS.below {w wr w' : World} {a0 a1 b0 b1 S : Int} {m n : Bool} (s : TmS w wr a0 a1 b0 b1 S m n) (h : Below wr.heap.size wr w') : TmS w w' a0 a1 b0 b1 S m n := by
 have z := s.sz
 have c := fun (b o : Nat) (hb : b < wr.heap.size) => h.cell (p := ⟨b, o, none⟩) hb
 exact ⟨s.be.trans (h.mono s.be.size), Nat.lt_of_lt_of_le s.sz h.size, (c _ _ (by omega)).trans s.x0, (c _ _ (by omega)).trans s.x1, (c _ _ (by omega)).trans s.x4, (c _ _ (by omega)).trans s.y0, (c _ _ (by omega)).trans s.y1, (c _ _ (by omega)).trans s.y4,
  s.r.below (by omega) h, (c _ _ (by omega)).trans s.o0, (c _ _ (by omega)).trans s.o1, (c _ _ (by omega)).trans s.o2, (c _ _ (by omega)).trans s.o3, (c _ _ (by omega)).trans s.o4, fun o => (h.frozen (p := ⟨w.heap.size + 3, o, none⟩) (by show w.heap.size + 3 < _; omega)).trans (s.of o)⟩



end Go.Proofs.YtahjijdadifkaaaDoor

namespace Go.Proofs.YtahjijdadifkaaaDoor

def prt (j : Nat) (v : Int) : Int := v / ((2 ^ (32 * j) : Nat) : Int) % 4294967296
end Go.Proofs.YtahjijdadifkaaaDoor

namespace Go.Proofs.YtahjijdadifkaaaDoor
open Go.RowKit
attribute [local go_sem] ite_max ite_min vite_max vite_min ext_cell ext_frozen

structure ByS (w w' : World) (A D : Int) (n : Bool) (q0 q1 q2 q3 p0 p1 p2 p3 : Int) : Prop where
 be : Below w.heap.size w w'
 sz : w.heap.size + 5 < w'.heap.size
 xs : ∀ j : Nat, j < 4 → w'.cell? ⟨w.heap.size, j, none⟩ = some (.int .u64 (prt j A))
 y0 : w'.cell? ⟨w.heap.size + 1, 0, none⟩ = some (.int .u64 (d0 D))
 y1 : w'.cell? ⟨w.heap.size + 1, 1, none⟩ = some (.int .u64 (d1 D))
 y2 : w'.cell? ⟨w.heap.size + 1, 2, none⟩ = some (.int .u64 (d2 D))
 y3 : w'.cell? ⟨w.heap.size + 1, 3, none⟩ = some (.int .u64 (d3 D))
 y4 : w'.cell? ⟨w.heap.size + 1, 4, none⟩ = some (.bool n)
 r : wideAt w' (w.heap.size + 2)
 s : wideAt w' (w.heap.size + 3)
 q0 : w'.cell? ⟨w.heap.size + 4, 0, none⟩ = some (.int .u64 q0)
 q1 : w'.cell? ⟨w.heap.size + 4, 1, none⟩ = some (.int .u64 q1)
 q2 : w'.cell? ⟨w.heap.size + 4, 2, none⟩ = some (.int .u64 q2)
 q3 : w'.cell? ⟨w.heap.size + 4, 3, none⟩ = some (.int .u64 q3)
 q4 : w'.cell? ⟨w.heap.size + 4, 4, none⟩ = some (.bool false)
 qf : ∀ o, w'.frozen? ⟨w.heap.size + 4, o, none⟩ = false
 p0 : w'.cell? ⟨w.heap.size + 5, 0, none⟩ = some (.int .u64 p0)
 p1 : w'.cell? ⟨w.heap.size + 5, 1, none⟩ = some (.int .u64 p1)
 p2 : w'.cell? ⟨w.heap.size + 5, 2, none⟩ = some (.int .u64 p2)
 p3 : w'.cell? ⟨w.heap.size + 5, 3, none⟩ = some (.int .u64 p3)
 p4 : w'.cell? ⟨w.heap.size + 5, 4, none⟩ = some (.bool false)
 pf : ∀ o, w'.frozen? ⟨w.heap.size + 5, o, none⟩ = false
theorem ByS.below {w wr w' : World} {A D : Int} {n : Bool} {q0 q1 q2 q3 p0 p1 p2 p3 : Int} (s : ByS w wr A D n q0 q1 q2 q3 p0 p1 p2 p3) (h : Below wr.heap.size wr w') : ByS w w' A D n q0 q1 q2 q3 p0 p1 p2 p3 := by
 have z := s.sz
 have c := fun (b o : Nat) (hb : b < wr.heap.size) => h.cell (p := ⟨b, o, none⟩) hb
 have f := fun (b o : Nat) (hb : b < wr.heap.size) => h.frozen (p := ⟨b, o, none⟩) hb
 exact ⟨s.be.trans (h.mono s.be.size), Nat.lt_of_lt_of_le s.sz h.size, fun j hj => (c _ _ (by omega)).trans (s.xs j hj), (c _ _ (by omega)).trans s.y0, (c _ _ (by omega)).trans s.y1, (c _ _ (by omega)).trans s.y2, (c _ _ (by omega)).trans s.y3, (c _ _ (by omega)).trans s.y4,
  s.r.below (by omega) h, s.s.below (by omega) h, (c _ _ (by omega)).trans s.q0, (c _ _ (by omega)).trans s.q1, (c _ _ (by omega)).trans s.q2, (c _ _ (by omega)).trans s.q3, (c _ _ (by omega)).trans s.q4, fun o => (f _ _ (by omega)).trans (s.qf o),
  (c _ _ (by omega)).trans s.p0, (c _ _ (by omega)).trans s.p1, (c _ _ (by omega)).trans s.p2, (c _ _ (by omega)).trans s.p3, (c _ _ (by omega)).trans s.p4, fun o => (f _ _ (by omega)).trans (s.pf o)⟩
end Go.Proofs.YtahjijdadifkaaaDoor

namespace Go.Proofs.YtahjijdadifkaaaDoor
open Go.RowKit
attribute [local go_sem] ite_max ite_min vite_max vite_min ext_cell ext_frozen extS_cell extS_frozen

def isVal (u v : Value) (_ : World) : Prop := v = u ∧ True
theorem isVal.below {u v : Value} {w w' : World} (h : isVal u v w) (_ : Below w.heap.size w w') : isVal u v w' := h
end Go.Proofs.YtahjijdadifkaaaDoor

namespace Go.Proofs.YtahjijdadifkaaaDoor
open Go.RowKit
attribute [local go_sem] ite_max ite_min vite_max vite_min ext_cell ext_frozen extS_cell extS_frozen



end Go.Proofs.YtahjijdadifkaaaDoor

namespace Go.Proofs.YtahjijdadifkaaaDoor
open Go.RowKit
attribute [local go_sem] ite_max ite_min vite_max vite_min ext_cell ext_frozen

def tvI (b : Bool) : Int := bif b then 1 else 0
def op1 (op a : Int) (tr : Bool) : Int × Bool × Int :=
 if op = 6 ∧ tr = false then (fitV (0 - a), false, bif fitB (0 - a) then 0 else 2) else if op = 7 ∧ tr = true then (1 - a, true, 0) else (0, false, -1)
def opT (op a b : Int) : Int × Bool × Int :=
 if op = 13 then (tvI (a == b), true, 0) else if op = 14 ∨ op = 20 then (tvI (a != b), true, 0) else if op = 19 then (tvI ((a == 1) && (b == 1)), true, 0) else if op = 21 then (tvI ((a == 1) || (b == 1)), true, 0) else (0, false, -1)
def fltE (e : Int) : Int := if e = 3 then 1 else if e = 0 then 0 else 2
def opK (op a b : Int) : Int × Bool × Int :=
 if op = 8 then (fitV (a + b), false, bif fitB (a + b) then 0 else 2) else if op = 9 then (fitV (a - b), false, bif fitB (a - b) then 0 else 2) else if op = 10 then (fitV (a * b), false, bif fitB (a * b) then 0 else 2)
 else if op = 11 then (divV a b, false, fltE (divE a b)) else (modV a b, false, fltE (modE b))
def opC (op a b : Int) : Int × Bool × Int :=
 (tvI (if op = 13 then a == b else if op = 14 then a != b else if op = 15 then decide (a < b) else if op = 16 then decide (b < a) else if op = 17 then decide (a ≤ b) else decide (b ≤ a)), true, 0)
def opV (r : Int × Bool × Int) : Value := .tuple #[.int .i64 r.1, .bool r.2.1, .int .i64 r.2.2]

theorem fitV_no0 {x : Int} (h : fitB x = false) : fitV x = 0 := by unfold fitV; rw [h]; rfl

theorem ftruth_any (b : Bool) (w : World) : Calls Tryd.prog 23 #[.bool b] w fun e w' => e = .returned (.int .i64 (tvI b)) ∧ w = w' := by
 cases b
 all_goals
  go_enter Tryd.func23, Tryd.ntmps23
  go_wp2
  go_ret
  exact ⟨rfl, rfl⟩



theorem ofone_any (op a : Int) (tr : Bool) (w : World) (ha : -9223372036854775808 ≤ a ∧ a ≤ 9223372036854775807) (ht : tr = true → 0 ≤ a ∧ a ≤ 1) :
  Calls Tryd.prog 25 #[.int .i64 op, .int .i64 a, .bool tr] w fun e w' => e = .returned (opV (op1 op a tr)) ∧ w = w' := by
 by_cases h6 : op = 6
 ·subst h6
  cases tr
  ·have hs := fun w => qsub_any 0 a w (by omega) ha
   cases hf : fitB (0 - a)
   ·rw [hf, fitV_no0 hf] at hs
    have e1 : opV (op1 6 a false) = .tuple #[.int .i64 0, .bool false, .int .i64 2] := by unfold op1 opV; rw [if_pos ⟨rfl, rfl⟩, hf, fitV_no0 hf]; rfl
    rw [e1]
    have HS := Lib.hid hs
    clear hs hf e1
    go_enter Tryd.func25, Tryd.ntmps25
    go_wp2_with fail
    refine (HS.out _).mono ?_
    rintro e w1 ⟨rfl, rfl⟩
    go_wp2
    go_ret3
    exact ⟨rfl, rfl⟩
   ·rw [hf] at hs
    have e1 : opV (op1 6 a false) = .tuple #[.int .i64 (fitV (0 - a)), .bool false, .int .i64 0] := by unfold op1 opV; rw [if_pos ⟨rfl, rfl⟩, hf]; rfl
    rw [e1]
    generalize fitV (0 - a) = x at *
    have HS := Lib.hid hs
    clear hs hf e1
    go_enter Tryd.func25, Tryd.ntmps25
    go_wp2_with fail
    refine (HS.out _).mono ?_
    rintro e w1 ⟨rfl, rfl⟩
    go_wp2
    go_ret3
    exact ⟨rfl, rfl⟩
  ·have e1 : opV (op1 6 a true) = .tuple #[.int .i64 0, .bool false, .int .i64 (-1)] := by unfold op1 opV; simp
   rw [e1]
   clear e1
   go_enter Tryd.func25, Tryd.ntmps25
   go_wp2
   go_ret3
   exact ⟨rfl, rfl⟩
 ·have q6 : (op == 6) = false := by simpa using h6
  by_cases h7 : op = 7
  ·subst h7
   cases tr
   ·have e1 : opV (op1 7 a false) = .tuple #[.int .i64 0, .bool false, .int .i64 (-1)] := by unfold op1 opV; simp
    rw [e1]
    clear e1 q6 h6
    go_enter Tryd.func25, Tryd.ntmps25
    go_wp2
    go_ret3
    exact ⟨rfl, rfl⟩
   ·have e1 : opV (op1 7 a true) = .tuple #[.int .i64 (1 - a), .bool true, .int .i64 0] := by unfold op1 opV; simp
    rw [e1]
    have := ht rfl
    clear e1 q6 h6
    go_enter Tryd.func25, Tryd.ntmps25
    go_wp2
    go_ret3
    exact ⟨rfl, rfl⟩
  ·have q7 : (op == 7) = false := by simpa using h7
   have e1 : opV (op1 op a tr) = .tuple #[.int .i64 0, .bool false, .int .i64 (-1)] := by unfold op1 opV; simp [h6, h7]
   rw [e1]
   clear e1 h6 h7 ht
   go_enter Tryd.func25, Tryd.ntmps25
   go_wp2
   go_ret3
   exact ⟨rfl, rfl⟩

theorem opT_other (op a b : Int) (h : op ≠ 13 ∧ op ≠ 14 ∧ op ≠ 19 ∧ op ≠ 20 ∧ op ≠ 21) : opT op a b = (0, false, -1) := by unfold opT; simp [h]

theorem oftruths_any (op a b : Int) (w : World) (ha : a = 0 ∨ a = 1) (hb : b = 0 ∨ b = 1) :
  Calls Tryd.prog 26 #[.int .i64 op, .int .i64 a, .int .i64 b] w fun e w' => e = .returned (opV (opT op a b)) ∧ w = w' := by
 by_cases h : op ≠ 13 ∧ op ≠ 14 ∧ op ≠ 19 ∧ op ≠ 20 ∧ op ≠ 21
 ·rw [opT_other op a b h]
  obtain ⟨h1, h2, h3, h4, h5⟩ := h
  have q1 : (op == 13) = false := by simpa using h1
  have q2 : (op == 14) = false := by simpa using h2
  have q3 : (op == 19) = false := by simpa using h3
  have q4 : (op == 20) = false := by simpa using h4
  have q5 : (op == 21) = false := by simpa using h5
  clear h1 h2 h3 h4 h5 ha hb
  go_enter Tryd.func26, Tryd.ntmps26
  go_wp2
  go_ret3
  exact ⟨rfl, rfl⟩
 ·have hc : op = 13 ∨ op = 14 ∨ op = 19 ∨ op = 20 ∨ op = 21 := by omega
  clear h
  rcases hc with rfl | rfl | rfl | rfl | rfl
  all_goals rcases ha with rfl | rfl
  all_goals rcases hb with rfl | rfl
  all_goals
   go_enter Tryd.func26, Tryd.ntmps26
   go_wp2_with (first | (go_at_call 23; refine (ftruth_any _ _).mono ?_; rintro e w' ⟨rfl, rfl⟩))
   go_ret3
   exact ⟨rfl, rfl⟩

theorem compared_any (op a b : Int) (w : World) (ho : 13 ≤ op ∧ op ≤ 18) :
  Calls Tryd.prog 28 #[.int .i64 op, .int .i64 a, .int .i64 b] w fun e w' => e = .returned (opV (opC op a b)) ∧ w = w' := by
 rcases (by omega : op = 13 ∨ op = 14 ∨ op = 15 ∨ op = 16 ∨ op = 17 ∨ op = 18) with rfl | rfl | rfl | rfl | rfl | rfl
 all_goals
  clear ho
  go_enter Tryd.func28, Tryd.ntmps28
  go_wp2_with (first | (go_at_call 23; refine (ftruth_any _ _).mono ?_; rintro e w' ⟨rfl, rfl⟩))
  go_ret3
  exact ⟨rfl, rfl⟩

theorem divE_cases (a b : Int) : divE a b = 0 ∨ (divE a b = 2 ∧ divV a b = 0) ∨ (divE a b = 3 ∧ divV a b = 0) := by
 unfold divV
 unfold divE
 by_cases h1 : b = 0
 ·simp [h1]
 ·by_cases h2 : a = -9223372036854775808 ∧ b = -1
  ·simp [h1, h2]
  ·simp [h1, h2]
theorem modE_cases (a b : Int) : modE b = 0 ∨ (modE b = 2 ∧ modV a b = 0) ∨ (modE b = 3 ∧ modV a b = 0) := by
 unfold modV modE
 by_cases h1 : b = 0
 ·simp [h1]
 ·simp [h1]

theorem reckoned_any (op a b : Int) (w : World) (ho : 8 ≤ op ∧ op ≤ 12) (ha : -9223372036854775808 ≤ a ∧ a ≤ 9223372036854775807) (hb : -9223372036854775808 ≤ b ∧ b ≤ 9223372036854775807) :
  Calls Tryd.prog 27 #[.int .i64 op, .int .i64 a, .int .i64 b] w fun e w' => e = .returned (opV (opK op a b)) ∧ w = w' := by
 rcases (by omega : op = 8 ∨ op = 9 ∨ op = 10 ∨ op = 11 ∨ op = 12) with rfl | rfl | rfl | rfl | rfl
 ·have hs := fun w => qadd_any a b w ha hb
  rw [show opK 8 a b = (fitV (a + b), false, bif fitB (a + b) then 0 else 2) from rfl]
  cases hf : fitB (a + b)
  ·rw [hf, fitV_no0 hf] at hs
   rw [fitV_no0 hf]
   have HS := Lib.hid hs
   clear hs hf ho
   go_enter Tryd.func27, Tryd.ntmps27
   go_wp2_with fail
   refine (HS.out _).mono ?_
   rintro e w1 ⟨rfl, rfl⟩
   go_wp2
   go_ret3
   exact ⟨rfl, rfl⟩
  ·rw [hf] at hs
   generalize fitV (a + b) = x at *
   have HS := Lib.hid hs
   clear hs hf ho
   go_enter Tryd.func27, Tryd.ntmps27
   go_wp2_with fail
   refine (HS.out _).mono ?_
   rintro e w1 ⟨rfl, rfl⟩
   go_wp2
   go_ret3
   exact ⟨rfl, rfl⟩
 ·have hs := fun w => qsub_any a b w ha hb
  rw [show opK 9 a b = (fitV (a - b), false, bif fitB (a - b) then 0 else 2) from rfl]
  cases hf : fitB (a - b)
  ·rw [hf, fitV_no0 hf] at hs
   rw [fitV_no0 hf]
   have HS := Lib.hid hs
   clear hs hf ho
   go_enter Tryd.func27, Tryd.ntmps27
   go_wp2_with fail
   refine (HS.out _).mono ?_
   rintro e w1 ⟨rfl, rfl⟩
   go_wp2
   go_ret3
   exact ⟨rfl, rfl⟩
  ·rw [hf] at hs
   generalize fitV (a - b) = x at *
   have HS := Lib.hid hs
   clear hs hf ho
   go_enter Tryd.func27, Tryd.ntmps27
   go_wp2_with fail
   refine (HS.out _).mono ?_
   rintro e w1 ⟨rfl, rfl⟩
   go_wp2
   go_ret3
   exact ⟨rfl, rfl⟩
 ·have hs := fun w => qmul_any a b w ha hb
  rw [show opK 10 a b = (fitV (a * b), false, bif fitB (a * b) then 0 else 2) from rfl]
  cases hf : fitB (a * b)
  ·rw [hf, fitV_no0 hf] at hs
   rw [fitV_no0 hf]
   have HS := Lib.hid hs
   clear hs hf ho
   go_enter Tryd.func27, Tryd.ntmps27
   go_wp2_with fail
   refine (HS.out _).mono ?_
   rintro e w1 ⟨rfl, rfl⟩
   go_wp2
   go_ret3
   exact ⟨rfl, rfl⟩
  ·rw [hf] at hs
   generalize fitV (a * b) = x at *
   have HS := Lib.hid hs
   clear hs hf ho
   go_enter Tryd.func27, Tryd.ntmps27
   go_wp2_with fail
   refine (HS.out _).mono ?_
   rintro e w1 ⟨rfl, rfl⟩
   go_wp2
   go_ret3
   exact ⟨rfl, rfl⟩
 ·have hs := fun w => qdiv_any a b w ha hb
  rw [show opK 11 a b = (divV a b, false, fltE (divE a b)) from rfl]
  have hz : divE a b = 0 ∨ (divE a b = 2 ∧ divV a b = 0) ∨ (divE a b = 3 ∧ divV a b = 0) := divE_cases a b
  generalize divV a b = x at *
  generalize divE a b = y at *
  rcases hz with rfl | ⟨rfl, rfl⟩ | ⟨rfl, rfl⟩
  all_goals
   have HS := Lib.hid hs
   clear hs ho
   go_enter Tryd.func27, Tryd.ntmps27
   go_wp2_with fail
   refine (HS.out _).mono ?_
   rintro e w1 ⟨rfl, rfl⟩
   go_wp2
   go_ret3
   exact ⟨rfl, rfl⟩
 ·have hs := fun w => qmod_any a b w ha hb
  rw [show opK 12 a b = (modV a b, false, fltE (modE b)) from rfl]
  have hz : modE b = 0 ∨ (modE b = 2 ∧ modV a b = 0) ∨ (modE b = 3 ∧ modV a b = 0) := modE_cases a b
  generalize modV a b = x at *
  generalize modE b = y at *
  rcases hz with rfl | ⟨rfl, rfl⟩ | ⟨rfl, rfl⟩
  all_goals
   have HS := Lib.hid hs
   clear hs ho
   go_enter Tryd.func27, Tryd.ntmps27
   go_wp2_with fail
   refine (HS.out _).mono ?_
   rintro e w1 ⟨rfl, rfl⟩
   go_wp2
   go_ret3
   exact ⟨rfl, rfl⟩

end Go.Proofs.YtahjijdadifkaaaDoor
