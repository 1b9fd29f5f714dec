/- Layer 1: roots and clamped numbers are the right ones: QRoots returns true. Conditions: none. -/
import Derived.Test.YtgbcefdlmockoaaQG
namespace Go.Proofs.Ytgbcefdlmockoaa
open Go.ChangeShapes Go.WideShapes Go.ChangeAt Go.RowKit
set_option linter.unusedVariables false
set_option linter.unusedSimpArgs false
attribute [local go_sem] ite_max ite_min vite_max vite_min ext_cell ext_frozen

/-- R tells which numbers' squares are not above n -/
def SqBelow (n R : Int) : Prop := 0 ≤ R ∧ R ≤ 3037000499 ∧ ∀ x, 1 ≤ x → x ≤ 3037000499 → (x * x ≤ n ↔ x ≤ R)
theorem sq_root {n R : Int} (hn : n ≤ 9223372036854775807) (h : IsRoot n R) : SqBelow n R := by
  have hb := root_bd h hn
  refine ⟨hb.1, hb.2, fun x h1 h2 => ⟨fun h3 => root_below h (by omega) h3, fun h3 => ?_⟩⟩
  have : x * x ≤ R * R := Int.mul_le_mul h3 h3 (by omega) hb.1
  have := h.2.1
  omega
theorem sq_neg {n : Int} (hn : n < 0) : SqBelow n 0 := by
  refine ⟨by omega, by omega, fun x h1 h2 => ⟨fun h3 => ?_, fun h3 => by omega⟩⟩
  have : 0 ≤ x * x := Int.mul_nonneg (by omega) (by omega)
  omega

theorem pow_some (j : Nat) (hj : j ≤ 31) : ∃ X : Int, (2 : Int) ^ j = X ∧ IntKind.i64.wrap ((2 : Int) ^ j) = X ∧ 1 ≤ X ∧ X ≤ 2147483648 ∧ (2 : Int) ^ (j + 1) = 2 * X := by
  have e : ((2 : Int) ^ j) = ((2 ^ j : Nat) : Int) := by rw [Int.natCast_pow]; rfl
  have h1 := Nat.pow_pos (n := j) (show 0 < 2 by omega)
  have h2 : (2 : Nat) ^ j ≤ 2 ^ 31 := Nat.pow_le_pow_right (by omega) hj
  refine ⟨(2 : Int) ^ j, rfl, ?_, by omega, by omega, by rw [Int.pow_succ]; omega⟩
  exact IntWalk.i64_in _ (by omega)

set_option maxHeartbeats 2000000 in
theorem rsqrt_at (n R : Int) (w : World) (hn : -9223372036854775808 ≤ n ∧ n ≤ 9223372036854775807) (hR : SqBelow n R) :
    Calls Try.prog 16 #[.int .i64 n] w fun e w' => e = .returned (.int .i64 R) ∧ w = w' := by
  have hRb : 0 ≤ R ∧ R ≤ 3037000499 := ⟨hR.1, hR.2.1⟩
  have HR := Lib.hid hR
  clear hR
  go_enter Try.func16, Try.ntmps16
  go_wp2_with fail
  go_loop [3, 4] (fun u v => ∃ (r : Int) (j : Nat), j ≤ 32 ∧ u = .int .i64 r ∧ v = .int .i64 ((j : Int) - 1) ∧ 0 ≤ r ∧ r ≤ R ∧ Hid (R < r + (2 : Int) ^ j)) (fun _ v => (intOf v + 1).toNat)
  case atStart =>
    refine ⟨0, 32, by omega, rfl, rfl, by omega, by omega, ?_⟩
    have h32 : (2 : Int) ^ 32 = 4294967296 := by decide
    show R < 0 + (2 : Int) ^ 32
    omega
  case round =>
    obtain ⟨r, j, hj, rfl, rfl, hr0, hrR, HJ⟩ := hrel
    by_cases h0 : j = 0
    · subst h0
      have hlt := HJ.out
      have h1 : (2 : Int) ^ 0 = 1 := rfl
      rw [h1] at hlt
      obtain rfl : R = r := by omega
      go_wp2
      go_ret
      exact ⟨rfl, rfl⟩
    · obtain ⟨i, rfl⟩ : ∃ i, j = i + 1 := ⟨j - 1, by omega⟩
      obtain ⟨X, hX, hXw, hX1, hX2, hX3⟩ := pow_some i (by omega)
      have hlt := HJ.out
      rw [hX3] at hlt
      have e1 : ((i + 1 : Nat) : Int) - 1 = (i : Int) := by omega
      rw [e1]
      have hib : (0 : Int) ≤ (i : Int) ∧ (i : Int) ≤ 31 := by omega
      have HX := Lib.hid hX
      clear hX hX3 h0 e1 HJ
      by_cases hx : r + X ≤ 3037000499
      · obtain ⟨Z, hZ⟩ : ∃ Z, (r + X) * (r + X) = Z := ⟨_, rfl⟩
        have hiff := HR.out.2.2 (r + X) (by omega) hx
        have hZb : 0 ≤ Z ∧ Z ≤ 9223372030926249001 := by
          rw [← hZ]
          exact ⟨Int.mul_nonneg (by omega) (by omega), Int.mul_le_mul hx hx (by omega) (by omega)⟩
        rw [hZ] at hiff
        by_cases hle : Z ≤ n
        · have hxR := hiff.1 hle
          clear hiff
          go_wp2
          go_round
          case rel => exact ⟨r + X, i, by omega, rfl, rfl, by omega, by omega, by show R < r + X + (2 : Int) ^ i; rw [HX.out]; omega⟩
          case measure => simp [intOf]
        · have hxR : R < r + X := by
            apply Classical.byContradiction
            intro h
            exact hle (hiff.2 (by omega))
          clear hiff
          go_wp2
          go_round
          case rel => exact ⟨r, i, by omega, rfl, rfl, by omega, by omega, by show R < r + (2 : Int) ^ i; rw [HX.out]; omega⟩
          case measure => simp [intOf]
      · go_wp2
        go_round
        case rel => exact ⟨r, i, by omega, rfl, rfl, by omega, by omega, by show R < r + (2 : Int) ^ i; rw [HX.out]; omega⟩
        case measure => simp [intOf]

set_option maxHeartbeats 1000000 in
theorem rclamp_any (n lo hi : Int) (w : World) : Calls Try.prog 18 #[.int .i64 n, .int .i64 lo, .int .i64 hi] w fun e w' => e = .returned (.int .i64 (max lo (min n hi))) ∧ w = w' := by
  by_cases h1 : hi < lo
  · rw [show max lo (min n hi) = lo by omega]
    go_enter Try.func18, Try.ntmps18
    go_wp2
    go_ret
    exact ⟨rfl, rfl⟩
  · by_cases h2 : n < lo
    · rw [show max lo (min n hi) = lo by omega]
      go_enter Try.func18, Try.ntmps18
      go_wp2
      go_ret
      exact ⟨rfl, rfl⟩
    · by_cases h3 : hi < n
      · rw [show max lo (min n hi) = hi by omega]
        go_enter Try.func18, Try.ntmps18
        go_wp2
        go_ret
        exact ⟨rfl, rfl⟩
      · rw [show max lo (min n hi) = n by omega]
        go_enter Try.func18, Try.ntmps18
        go_wp2
        go_ret
        exact ⟨rfl, rfl⟩

set_option maxHeartbeats 1000000 in
theorem walk_QRoots (n lo hi : Int) (h1 : (Lit.int .i64 n).wf = true) (_ : (Lit.int .i64 lo).wf = true) (_ : (Lit.int .i64 hi).wf = true) (w : World) :
    Calls Try.prog 4 #[.int .i64 n, .int .i64 lo, .int .i64 hi] w fun e w' => e = .returned (.bool true) ∧ Below w.heap.size w w' := by
  have hn := bounds_i64 h1
  obtain ⟨R, hR, hq⟩ : ∃ R, SqBelow n R ∧ ∀ w, Calls Try.prog 15 #[.int .i64 n] w fun e w' => e = .returned (.int .i64 R) ∧ w = w' := by
    by_cases h : n < 0
    · exact ⟨0, sq_neg h, fun w => qsqrt_low n w (by omega)⟩
    · obtain ⟨R, hR⟩ := root_some n (by omega)
      exact ⟨R, sq_root hn.2 hR, fun w => qsqrt_at n R w (by omega) hR⟩
  obtain ⟨k, hk⟩ : ∃ k, max lo (min n hi) = k := ⟨_, rfl⟩
  have hrc := fun w => rclamp_any n lo hi w
  rw [hk] at hrc
  have HR := Lib.hid hR
  have HQ := Lib.hid hq
  have HK := Lib.hid hk
  have HC := Lib.hid hrc
  clear hR hq hk hrc h1
  go_enter Try.func4, Try.ntmps4
  go_wp2_with fail
  refine (awake1 _).mono ?_
  rintro e w1 ⟨rfl, hb1⟩
  go_wp2_with fail
  refine (HQ.out _).mono ?_
  rintro e w2 ⟨rfl, rfl⟩
  go_wp2_with fail
  refine (rsqrt_at n R _ hn HR.out).mono ?_
  rintro e w2 ⟨rfl, rfl⟩
  go_wp2_with fail
  refine (qclamp_at _ _ _ k _ HK.out).mono ?_
  rintro e w2 ⟨rfl, rfl⟩
  go_wp2_with fail
  refine (HC.out _).mono ?_
  rintro e w2 ⟨rfl, rfl⟩
  go_wp2
  go_ret
  exact ⟨rfl, by (repeat' (first | (with_reducible exact Below.refl _ _) | (with_reducible assumption) | (with_reducible refine below_drewN ?_ _) | (with_reducible refine Below.drew ?_) | (with_reducible refine below_new ?_ (Nat.le_refl _) _) | (with_reducible refine Below.setCell ?_ ?_ _) | (with_reducible refine below_go ?_ (by assumption) (Nat.le_refl _)) | (simp; done) | (simp; omega) | omega))⟩

set_option maxRecDepth 100000 in
theorem lifted_QRoots (os : Os) (started : os.Started) (H : Type) (enc : TypeId × Value → H) :
    ReturnsInHanded {} Try.checked os 4 .any (Rows.qRootsSpec.pre6 enc Try.prog Try.f4 Rows.qRootsRow.domain false) (Rows.qRootsSpec.post enc Try.prog Try.f4 false true false false) := by
  refine returnsInHanded_of_change (C := Try.checked) own started (by kernel_rfl) Try.func4
    (ChangeSpec.witness6 (enc := enc) (C := Try.checked) false ⟨#[], #[.int .i64 0, .int .i64 0, .int .i64 0], []⟩ 8 (by kernel_rfl) (by kernel_rfl) (by kernel_rfl) (by kernel_rfl)) ?_
  intro W base args ds gs before hval0 hW hcnd _
  have hval : ∀ (j : Nat) t v, Try.f4.params[j]? = some t → args[j]? = some v → Value.okWide Try.prog W .any base t v := hval0
  have hW' := hW
  obtain ⟨p, q, hA0, hV, rfl, hfz, hnd⟩ := hW'
  have hA : DataW.TrodAll enc Try.prog W 0 (fun _ => true) true Try.f4.params.toList args.toList ds p := hA0
  rw [Try.params4] at hA hval
  obtain ⟨v0, vs0, d0, ds0, p0, q0, hargs, rfl, rfl, h0, r0⟩ := trodAll_cons hA
  obtain ⟨v1, vs1, d1, ds1, p1, q1, rfl, rfl, rfl, h1, r1⟩ := trodAll_cons r0
  obtain ⟨v2, vs2, d2, ds2, p2, q2, rfl, rfl, rfl, h2, r2⟩ := trodAll_cons r1
  obtain ⟨rfl, rfl, rfl⟩ := trodAll_nil r2
  obtain rfl : args = #[v0, v1, v2] := by cases args; simp_all
  obtain ⟨rfl, rfl⟩ := trodVars_none hV
  obtain ⟨a0, rfl, rfl, rfl, w0⟩ := open_int Try.underlying2 (hval 0 2 v0 rfl rfl) h0
  obtain ⟨a1, rfl, rfl, rfl, w1⟩ := open_int Try.underlying2 (hval 1 2 v1 rfl rfl) h1
  obtain ⟨a2, rfl, rfl, rfl, w2⟩ := open_int Try.underlying2 (hval 2 2 v2 rfl rfl) h2
  refine (walk_QRoots a0 a1 a2 w0 w1 w2 W).mono fun e W' ⟨he, hb⟩ => ⟨_, he, ?_⟩
  exact law_post_any laid_out Try.underlying4 hW rfl ⟨rfl, rfl, rfl⟩ rfl (by kernel_rfl) hb

theorem over_QRoots : Rows.qRootsRow.holds Try.pinned (OpenSpec.ofChange Rows.qRootsSpec) :=
  OpenClaim.holds_of_wide 4 Try.f4 rfl rfl rfl rfl rfl rfl rfl ⟨rfl, rfl, rfl, rfl, rfl⟩ rfl rfl rfl rfl rfl (by kernel_rfl) Try.func4 (by kernel_rfl)
    (of_decide_eq_true (by kernel_rfl)) (by unfold Func.isWrapper; first | (rw [if_pos (by decide +kernel)]; kernel_rfl) | (rw [if_neg (by decide +kernel)]; exact ⟨rfl, rfl⟩))
    (fun os started H enc _ => lifted_QRoots os started H enc)

/-- the statement -/
theorem QRoots_holds : Rows.QRootsSaid := over_QRoots
#print axioms QRoots_holds

end Go.Proofs.Ytgbcefdlmockoaa
