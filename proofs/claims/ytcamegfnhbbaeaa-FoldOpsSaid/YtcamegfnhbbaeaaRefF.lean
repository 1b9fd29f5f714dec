/- Contracts of the reference of layer 1: Add, Sub. -/
import Derived.Test.YtcamegfnhbbaeaaRefE
namespace Go.Proofs.Ytcamegfnhbbaeaa
open Go.RowKit
set_option linter.unusedVariables false
set_option linter.unusedSimpArgs false
attribute [local go_sem] ite_max ite_min vite_max vite_min ext_cell ext_frozen

/-- a size with its sign -/
def sg (V : Int) (k : Bool) : Int := bif k then -V else V
theorem sg_cases (V : Int) (k : Bool) (x : Int) (h : sg V k = x) : (k = true ∧ -V = x) ∨ (k = false ∧ V = x) := by
  cases k
  · exact .inr ⟨rfl, h⟩
  · exact .inl ⟨rfl, h⟩
/-- some number in parts, of that value -/
def PlusPost (x : Int) (w : World) (e : Ending) (w' : World) : Prop := ∃ (V : Int) (k : Bool), e = .returned (.agg #[.int .u64 (d0 V), .int .u64 (d1 V), .int .u64 (d2 V), .int .u64 (d3 V), .bool k]) ∧ (0 ≤ V ∧ V < 340282366920938463463374607431768211456) ∧ sg V k = x ∧ Below w.heap.size w w'

theorem rplus_any (A C x : Int) (m n : Bool) (w : World) (hA : 0 ≤ A ∧ A < 340282366920938463463374607431768211456) (hC : 0 ≤ C ∧ C < 340282366920938463463374607431768211456) (hs : A + C < 340282366920938463463374607431768211456) (hx : sg A m + sg C n = x) :
    Calls Try.prog 45 #[.agg #[.int .u64 (d0 A), .int .u64 (d1 A), .int .u64 (d2 A), .int .u64 (d3 A), .bool m], .agg #[.int .u64 (d0 C), .int .u64 (d1 C), .int .u64 (d2 C), .int .u64 (d3 C), .bool n]] w (PlusPost x w) := by
  subst hx
  cases hmn : (m == n)
  · by_cases h : C ≤ A
    · refine (rplus_ge A C m n w hA hC h hmn).mono ?_
      rintro e w' ⟨rfl, hb⟩
      refine ⟨A - C, m, rfl, by omega, ?_, hb⟩
      cases m <;> cases n <;> simp_all [sg] <;> omega
    · refine (rplus_lt A C m n w hA hC (by omega) hmn).mono ?_
      rintro e w' ⟨rfl, hb⟩
      refine ⟨C - A, n, rfl, by omega, ?_, hb⟩
      cases m <;> cases n <;> simp_all [sg] <;> omega
  · obtain rfl : m = n := by simpa using hmn
    refine (rplus_same A C m w hA hC hs).mono ?_
    rintro e w' ⟨rfl, hb⟩
    refine ⟨A + C, m, rfl, by omega, ?_, hb⟩
    cases m <;> simp [sg] <;> omega

set_option maxRecDepth 100000 in
set_option maxHeartbeats 1000000 in
theorem radd_at (a b x : Int) (w : World) (ha : -9223372036854775808 ≤ a ∧ a ≤ 9223372036854775807) (hb : -9223372036854775808 ≤ b ∧ b ≤ 9223372036854775807) (hx : a + b = x) :
    Calls Try.prog 22 #[.int .i64 a, .int .i64 b] w fun e w' => e = .returned (.tuple #[.int .i64 (fitV x), .bool (fitB x)]) ∧ Below w.heap.size w w' := by
  have HX : Hid (sg (max a (-a)) (decide (a < 0)) + sg (max b (-b)) (decide (b < 0)) = x) := Lib.hid (by
    by_cases h1 : a < 0 <;> by_cases h2 : b < 0 <;> simp only [h1, h2, decide_true, decide_false, sg, cond_true, cond_false] <;> omega)
  have hA : 0 ≤ max a (-a) ∧ max a (-a) ≤ 9223372036854775808 := by omega
  have hB : 0 ≤ max b (-b) ∧ max b (-b) ≤ 9223372036854775808 := by omega
  have HOA := Lib.hid (fun w => rof_at a w ha)
  have HOB := Lib.hid (fun w => rof_at b w hb)
  generalize max a (-a) = A at *
  generalize max b (-b) = B at *
  obtain ⟨sa, hsa⟩ : ∃ sa, decide (a < 0) = sa := ⟨_, rfl⟩
  obtain ⟨sb, hsb⟩ : ∃ sb, decide (b < 0) = sb := ⟨_, rfl⟩
  rw [hsa] at HOA HX
  rw [hsb] at HOB HX
  clear hx hsa hsb
  go_enter Try.func22, Try.ntmps22
  go_wp2_with fail
  refine (HOA.out _).mono ?_
  rintro e w1 ⟨rfl, hb1⟩
  go_wp2_with fail
  refine (HOB.out _).mono ?_
  rintro e w2 ⟨rfl, hb2⟩
  go_wp2_with fail
  refine (rplus_any A B x sa sb _ (by omega) (by omega) (by omega) HX.out).mono ?_
  rintro e w3 ⟨V, k, rfl, hV, hk, hb3⟩
  have HK := Lib.hid hk
  clear hk
  go_wp2_with fail
  refine (rroom_at V x k _ hV (sg_cases V k x HK.out)).mono ?_
  rintro e w4 ⟨rfl, hb4⟩
  go_wp2
  go_ret2
  exact ⟨rfl, (hb1.trans (hb2.mono hb1.size)).trans ((hb3.mono (Nat.le_trans hb1.size hb2.size)).trans (hb4.mono (Nat.le_trans hb1.size (Nat.le_trans hb2.size hb3.size))))⟩

set_option maxRecDepth 100000 in
set_option maxHeartbeats 1000000 in
theorem rsub_at (a b x : Int) (w : World) (ha : -9223372036854775808 ≤ a ∧ a ≤ 9223372036854775807) (hb : -9223372036854775808 ≤ b ∧ b ≤ 9223372036854775807) (hx : a - b = x) :
    Calls Try.prog 21 #[.int .i64 a, .int .i64 b] w fun e w' => e = .returned (.tuple #[.int .i64 (fitV x), .bool (fitB x)]) ∧ Below w.heap.size w w' := by
  have HX : Hid (sg (max a (-a)) (decide (a < 0)) + sg (max b (-b)) (!decide (b < 0)) = x) := Lib.hid (by
    by_cases h1 : a < 0 <;> by_cases h2 : b < 0 <;> simp only [h1, h2, decide_true, decide_false, sg, cond_true, cond_false, Bool.not_true, Bool.not_false] <;> omega)
  have hA : 0 ≤ max a (-a) ∧ max a (-a) ≤ 9223372036854775808 := by omega
  have hB : 0 ≤ max b (-b) ∧ max b (-b) ≤ 9223372036854775808 := by omega
  have HOA := Lib.hid (fun w => rof_at a w ha)
  have HOB := Lib.hid (fun w => rof_at b w hb)
  generalize max a (-a) = A at *
  generalize max b (-b) = B at *
  obtain ⟨sa, hsa⟩ : ∃ sa, decide (a < 0) = sa := ⟨_, rfl⟩
  obtain ⟨sb, hsb⟩ : ∃ sb, decide (b < 0) = sb := ⟨_, rfl⟩
  rw [hsa] at HOA HX
  rw [hsb] at HOB HX
  clear hx hsa hsb
  go_enter Try.func21, Try.ntmps21
  go_wp2_with fail
  refine (HOA.out _).mono ?_
  rintro e w1 ⟨rfl, hb1⟩
  go_wp2_with fail
  refine (HOB.out _).mono ?_
  rintro e w2 ⟨rfl, hb2⟩
  go_wp2_with fail
  refine (rturned_at _ _ _ _ sb _).mono ?_
  rintro e w2' ⟨rfl, hb2'⟩
  go_wp2_with fail
  refine (rplus_any A B x sa (!sb) _ (by omega) (by omega) (by omega) HX.out).mono ?_
  rintro e w3 ⟨V, k, rfl, hV, hk, hb3⟩
  have HK := Lib.hid hk
  clear hk
  go_wp2_with fail
  refine (rroom_at V x k _ hV (sg_cases V k x HK.out)).mono ?_
  rintro e w4 ⟨rfl, hb4⟩
  go_wp2
  go_ret2
  have z1 := hb1.size
  have z2 := hb2.size
  have z3 := hb2'.size
  have z4 := hb3.size
  exact ⟨rfl, (((hb1.trans (hb2.mono (by omega))).trans (hb2'.mono (by omega))).trans (hb3.mono (by omega))).trans (hb4.mono (by omega))⟩

end Go.Proofs.Ytcamegfnhbbaeaa
