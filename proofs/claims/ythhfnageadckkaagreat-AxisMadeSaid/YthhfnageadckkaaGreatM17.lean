/- Merged: Contracts of layer 1: a product by a number, rounded down; the fixed answers. Layer 1: the fixed answers; contracts by equations. Contracts of layer 14: where an axis should be; the fixed answers. Contracts of layer 14: what is wanted of an axis that follows another. -/
import Derived.Test.YthhfnageadckkaaGreatM16
import Derived.Test.YthhfnageadckkaaGreatM02
import Derived.Test.YthhfnageadckkaaGreatM04
import Derived.Test.YthhfnageadckkaaGreatM03
set_option linter.unusedVariables false
set_option linter.unusedSimpArgs false
set_option maxHeartbeats 8000000
namespace Go.Proofs.YthhfnageadckkaaGreat
open Go.RowKit
attribute [local go_sem] ite_max ite_min vite_max vite_min ext_cell ext_frozen

theorem div64_at (hi lo y q r : Int) (w : World) (hh : 0 ≤ hi ∧ hi < y) (hl : 0 ≤ lo ∧ lo ≤ 18446744073709551615) (hy : 1 ≤ y ∧ y ≤ 18446744073709551615) (hq : (hi * 18446744073709551616 + lo) / y = q) (hr : (hi * 18446744073709551616 + lo) % y = r) :
    Calls Tryz.prog 132 #[.int .u64 hi, .int .u64 lo, .int .u64 y] w fun e w' => e = .returned (.tuple #[.int .u64 q, .int .u64 r]) ∧ Below w.heap.size w w' := by
  subst hq
  subst hr
  by_cases h : hi = 0
  · subst h
    have := div64_low lo y w hl hy
    rw [show (0 : Int) * 18446744073709551616 + lo = lo by omega]
    exact this
  · exact div64_high hi lo y _ w (by omega) hl hy rfl

def mdE (a b c : Int) : Int := if c = 0 then 3 else if c < 0 then 1 else if fitB (a * b / c) = true then 0 else 2
def mdV (a b c : Int) : Int := if mdE a b c = 0 then a * b / c else 0

theorem neg_quo (M c : Int) (hc : 0 < c) : (-M) / c = if M % c = 0 then -(M / c) else -(M / c) - 1 := by
  have h1 := Int.mul_ediv_add_emod M c
  have h2 := Int.emod_nonneg M (show c ≠ 0 by omega)
  have h3 := Int.emod_lt_of_pos M hc
  generalize M / c = n at *
  generalize M % c = r at *
  have h4 : c * n = n * c := Int.mul_comm c n
  by_cases h : r = 0
  · rw [if_pos h, show -M = 0 + (-n) * c by rw [Int.neg_mul]; omega, Int.add_mul_ediv_right _ _ (by omega)]
    simp
  · rw [if_neg h, show -M = (c - r) + (-n - 1) * c by rw [Int.sub_mul, Int.neg_mul]; omega, Int.add_mul_ediv_right _ _ (by omega), Int.ediv_eq_zero_of_lt (by omega) (by omega)]
    omega

theorem qmuldiv_bad (a b c : Int) (w : World) (hc : c ≤ 0) :
    Calls Tryz.prog 130 #[.int .i64 a, .int .i64 b, .int .i64 c] w fun e w' => e = .returned (.tuple #[.int .i64 (mdV a b c), .int .i64 (mdE a b c)]) ∧ Below w.heap.size w w' := by
  by_cases c0 : c = 0
  · subst c0
    rw [show mdE a b 0 = 3 from rfl, show mdV a b 0 = 0 from rfl]
    go_enter Tryz.func130, Tryz.ntmps130
    go_wp2
    go_ret2
    exact ⟨rfl, by exact belowBy⟩
  · have e1 : mdE a b c = 1 := by unfold mdE; rw [if_neg c0, if_pos (by omega)]
    have e2 : mdV a b c = 0 := by unfold mdV; rw [e1]; rfl
    have q0 : (c == 0) = false := by simpa using c0
    rw [e1, e2]
    have c1 : c < 0 := by omega
    clear e1 e2 c0 hc
    go_enter Tryz.func130, Tryz.ntmps130
    go_wp2
    go_ret2
    exact ⟨rfl, by exact belowBy⟩

set_option maxRecDepth 100000 in
theorem qmuldiv_good (a b c : Int) (w : World) (ha : -9223372036854775808 ≤ a ∧ a ≤ 9223372036854775807) (hb : -9223372036854775808 ≤ b ∧ b ≤ 9223372036854775807) (hc : 1 ≤ c ∧ c ≤ 9223372036854775807) :
    Calls Tryz.prog 130 #[.int .i64 a, .int .i64 b, .int .i64 c] w fun e w' => e = .returned (.tuple #[.int .i64 (mdV a b c), .int .i64 (mdE a b c)]) ∧ Below w.heap.size w w' := by
  have hs := size_mul a b
  have hz := size_bd a b ha hb
  have q0 : (c == 0) = false := by simp; omega
  have he : mdE a b c = if fitB (a * b / c) = true then 0 else 2 := by unfold mdE; rw [if_neg (by omega), if_neg (by omega)]
  have hv : mdV a b c = fitV (a * b / c) := by
    unfold mdV
    rw [he]
    unfold fitV
    split
    · rfl
    · rfl
  rw [he, hv]
  clear he hv
  obtain ⟨x, hx⟩ : ∃ x, a * b / c = x := ⟨_, rfl⟩
  obtain ⟨M, hM⟩ : ∃ M, max a (-a) * max b (-b) = M := ⟨_, rfl⟩
  rw [hM] at hs hz
  have hng := neg_quo M c (by omega)
  have hxx : ((decide (a < 0) != decide (b < 0)) = true ∧ x = (-M) / c) ∨ ((decide (a < 0) != decide (b < 0)) = false ∧ x = M / c) := by
    rcases hs with ⟨h1, h2⟩ | ⟨h1, h2⟩
    · exact .inl ⟨h1, by rw [← hx, h2]⟩
    · exact .inr ⟨h1, by rw [← hx, h2]⟩
  rw [hng] at hxx
  rw [hx]
  clear hs hng hx
  have hn1 := Int.mul_ediv_add_emod M c
  have hn2 := Int.emod_nonneg M (show c ≠ 0 by omega)
  have hn3 := Int.emod_lt_of_pos M (show 0 < c by omega)
  have hn4 := Int.ediv_nonneg hz.1 (show 0 ≤ c by omega)
  obtain ⟨hi, hhi⟩ : ∃ hi, M / 18446744073709551616 = hi := ⟨_, rfl⟩
  obtain ⟨lo, hlo⟩ : ∃ lo, M % 18446744073709551616 = lo := ⟨_, rfl⟩
  have hhb : 0 ≤ hi ∧ hi ≤ 4611686018427387904 := by omega
  have hlb : 0 ≤ lo ∧ lo ≤ 18446744073709551615 := by omega
  have hhl : hi * 18446744073709551616 + lo = M := by omega
  have hbig : c ≤ hi → 18446744073709551616 ≤ M / c := fun h => (Int.le_ediv_iff_mul_le (by omega)).2 (by
    have : 18446744073709551616 * c ≤ 18446744073709551616 * hi := by omega
    omega)
  have hsml : hi < c → M / c < 18446744073709551616 := fun h => Int.ediv_lt_of_lt_mul (by omega) (by omega)
  obtain ⟨n, hn⟩ : ∃ n, M / c = n := ⟨_, rfl⟩
  obtain ⟨r, hr⟩ : ∃ r, M % c = r := ⟨_, rfl⟩
  rw [hn] at hxx hn1 hn4 hbig hsml
  rw [hr] at hxx hn1 hn2 hn3
  have HM := Lib.hid hM
  have HI := Lib.hid hhi
  have HL := Lib.hid hlo
  have HN := Lib.hid hn
  have HR := Lib.hid hr
  have HH := Lib.hid hhl
  clear hM hhi hlo hn hr hhl hn1
  cases A : decide (a < 0)
  all_goals cases B : decide (b < 0)
  all_goals rw [A, B] at hxx
  all_goals simp at hxx
  all_goals by_cases r0 : r = 0
  all_goals
    first
      | rw [if_pos r0] at hxx
      | rw [if_neg r0] at hxx
      | skip
  all_goals by_cases hcmp : c ≤ hi
  all_goals
    first
      | have hb2 := hbig hcmp
      | have hb2 := hsml (by omega)
  all_goals clear hbig hsml
  all_goals
    by_cases nb : n = 18446744073709551615
  all_goals
    first
      | have qn : (n == 18446744073709551615) = true := by simpa using nb
      | have qn : (n == 18446744073709551615) = false := by simpa using nb
  all_goals have HX := Lib.hid hxx
  all_goals
    by_cases nf : -9223372036854775808 ≤ x ∧ x ≤ 9223372036854775807
  all_goals
    first
      | (exfalso; omega)
      | skip
  all_goals
    first
      | rw [fitV_yes nf, fitB_yes nf]
      | rw [fitV_no nf, fitB_no nf]
  all_goals clear hxx
  all_goals
    first
      | subst r0
      | have r1 : 0 < r := by omega
  all_goals
    first
      | (have nb2 : n < 18446744073709551615 := by omega)
      | skip
  all_goals
    clear nb
    go_enter Tryz.func130, Tryz.ntmps130
    go_wp2_with fail
    refine (qsize_any _ _ ha).mono ?_
    rintro e w1 ⟨rfl, rfl⟩
    go_wp2_with fail
    refine (qsize_any _ _ hb).mono ?_
    rintro e w1 ⟨rfl, rfl⟩
    go_wp2_with fail
    refine (mul64_at _ _ hi lo _ (by omega) (by omega) (by rw [HM.out, HI.out]) (by rw [HM.out, HL.out])).mono ?_
    rintro e w1 ⟨rfl, rfl⟩
    go_wp2_with fail
  all_goals
    first
      | done
      | (go_ret2
         exact ⟨rfl, by exact belowBy⟩)
      | (refine (div64_at hi lo c n _ _ (by omega) (by omega) (by omega) (by rw [HH.out, HN.out]) (by rw [HH.out, HR.out])).mono ?_
         rintro e w2 ⟨rfl, hbw⟩
         go_wp2_with fail
         first
           | (go_ret2
              exact ⟨rfl, by exact belowBy⟩)
           | (refine (qsigned_any _ x _ _ (by omega) (by have := HX.out; simp; omega)).mono ?_
              first
                | rw [fitV_yes nf, fitB_yes nf]
                | rw [fitV_no nf, fitB_no nf]
              rintro e w3 ⟨rfl, rfl⟩
              go_wp2
              go_ret2
              exact ⟨rfl, by exact belowBy⟩))

end Go.Proofs.YthhfnageadckkaaGreat

namespace Go.Proofs.YthhfnageadckkaaGreat
open Go.ChangeShapes Go.WideShapes Go.ChangeAt Go.RowKit
attribute [local go_sem] ite_max ite_min vite_max vite_min ext_cell ext_frozen

theorem qadd_at (a b v : Int) (o : Bool) (w : World) (ha : -9223372036854775808 ≤ a ∧ a ≤ 9223372036854775807) (hb : -9223372036854775808 ≤ b ∧ b ≤ 9223372036854775807) (hv : fitV (a + b) = v) (ho : fitB (a + b) = o) :
    Calls Tryz.prog 110 #[.int .i64 a, .int .i64 b] w fun e w' => e = .returned (.tuple #[.int .i64 v, .bool o]) ∧ w = w' := by
  subst hv
  subst ho
  exact qadd_any a b w ha hb

theorem qsub_at (a b v : Int) (o : Bool) (w : World) (ha : -9223372036854775808 ≤ a ∧ a ≤ 9223372036854775807) (hb : -9223372036854775808 ≤ b ∧ b ≤ 9223372036854775807) (hv : fitV (a - b) = v) (ho : fitB (a - b) = o) :
    Calls Tryz.prog 87 #[.int .i64 a, .int .i64 b] w fun e w' => e = .returned (.tuple #[.int .i64 v, .bool o]) ∧ w = w' := by
  subst hv
  subst ho
  exact qsub_any a b w ha hb







theorem qmuldiv_at (a b c v x : Int) (w : World) (ha : -9223372036854775808 ≤ a ∧ a ≤ 9223372036854775807) (hb : -9223372036854775808 ≤ b ∧ b ≤ 9223372036854775807) (hc : -9223372036854775808 ≤ c ∧ c ≤ 9223372036854775807) (hv : mdV a b c = v) (hx : mdE a b c = x) :
    Calls Tryz.prog 130 #[.int .i64 a, .int .i64 b, .int .i64 c] w fun e w' => e = .returned (.tuple #[.int .i64 v, .int .i64 x]) ∧ Below w.heap.size w w' := by
  subst hv
  subst hx
  by_cases h : c ≤ 0
  · exact qmuldiv_bad a b c w h
  · exact qmuldiv_good a b c w ha hb (by omega)



theorem qclamp_at (n lo hi k : Int) (w : World) (hk : max lo (min n hi) = k) : Calls Tryz.prog 88 #[.int .i64 n, .int .i64 lo, .int .i64 hi] w fun e w' => e = .returned (.int .i64 k) ∧ w = w' := by
  subst hk
  exact qclamp_any n lo hi w




def plO (s f m n k : Int) : Bool := fitB (m - f) && decide (1 ≤ k) && decide (mdE (m - f) n k = 0) && fitB (s + mdV (m - f) n k)
def plV (s f m n k : Int) : Int := if plO s f m n k = true then s + mdV (m - f) n k else 0

theorem mdV_bd (a b c : Int) : -9223372036854775808 ≤ mdV a b c ∧ mdV a b c ≤ 9223372036854775807 := by
  unfold mdV
  by_cases h : mdE a b c = 0
  · rw [if_pos h]
    unfold mdE at h
    split at h
    · omega
    · split at h
      · omega
      · split at h
        · rename_i hf
          exact of_decide_eq_true hf
        · omega
  · rw [if_neg h]
    omega
theorem fitV_bd (x : Int) : -9223372036854775808 ≤ fitV x ∧ fitV x ≤ 9223372036854775807 := by
  unfold fitV fitB
  split
  · rename_i h
    exact of_decide_eq_true h
  · omega
theorem fitV_off {x : Int} (h : fitB x = false) : fitV x = 0 := by
  unfold fitV
  rw [h]
  rfl

theorem gplace_any (s f m n k : Int) (w : World) (hs : -9223372036854775808 ≤ s ∧ s ≤ 9223372036854775807) (hf : -9223372036854775808 ≤ f ∧ f ≤ 9223372036854775807) (hm : -9223372036854775808 ≤ m ∧ m ≤ 9223372036854775807)
    (hn : -9223372036854775808 ≤ n ∧ n ≤ 9223372036854775807) (hk : -9223372036854775808 ≤ k ∧ k ≤ 9223372036854775807) :
    Calls Tryz.prog 122 #[.int .i64 s, .int .i64 f, .int .i64 m, .int .i64 n, .int .i64 k] w fun e w' => e = .returned (.tuple #[.int .i64 (plV s f m n k), .bool (plO s f m n k)]) ∧ Below w.heap.size w w' := by
  cases h1 : fitB (m - f)
  · have e1 : plO s f m n k = false := by unfold plO; rw [h1]; rfl
    have e2 : plV s f m n k = 0 := by unfold plV; rw [e1]; rfl
    rw [e1, e2]
    have H1 := Lib.hid h1
    clear e1 e2 h1
    go_enter Tryz.func122, Tryz.ntmps122
    go_wp2_with fail
    refine (qsub_at _ _ 0 false _ hm hf (fitV_off H1.out) H1.out).mono ?_
    rintro e w1 ⟨rfl, rfl⟩
    go_wp2
    go_ret2
    exact ⟨rfl, by exact belowBy⟩
  · obtain ⟨d, hd⟩ : ∃ d, fitV (m - f) = d := ⟨_, rfl⟩
    have hd2 : m - f = d := by
      rw [← hd]
      unfold fitV
      rw [h1]
      rfl
    have hdb := fitV_bd (m - f)
    rw [hd] at hdb
    by_cases h2 : 1 ≤ k
    · have hv := mdV_bd d n k
      by_cases h3 : mdE d n k = 0
      · have e1 : plO s f m n k = fitB (s + mdV d n k) := by unfold plO; rw [h1, hd2, decide_eq_true h2, decide_eq_true h3]; rfl
        have e2 : plV s f m n k = fitV (s + mdV d n k) := by
          unfold plV
          rw [e1, hd2]
          rfl
        rw [e1, e2]
        obtain ⟨q, hq⟩ : ∃ q, mdV d n k = q := ⟨_, rfl⟩
        rw [hq] at hv ⊢
        have H1 := Lib.hid h1
        have H2 := Lib.hid hd
        have H3 := Lib.hid h3
        have H4 := Lib.hid hq
        clear e1 e2 h1 hd h3 hq hd2
        go_enter Tryz.func122, Tryz.ntmps122
        go_wp2_with fail
        refine (qsub_at _ _ d true _ hm hf H2.out H1.out).mono ?_
        rintro e w1 ⟨rfl, rfl⟩
        go_wp2_with fail
        refine (qmuldiv_at _ _ _ q 0 _ hdb hn hk H4.out H3.out).mono ?_
        rintro e w1 ⟨rfl, hb1⟩
        go_wp2_with fail
        refine (qadd_any _ _ _ hs hv).mono ?_
        rintro e w2 ⟨rfl, rfl⟩
        go_wp2
        go_ret2
        exact ⟨rfl, by exact belowBy⟩
      · have e1 : plO s f m n k = false := by unfold plO; rw [h1, hd2, decide_eq_true h2, decide_eq_false h3]; rfl
        have e2 : plV s f m n k = 0 := by unfold plV; rw [e1]; rfl
        rw [e1, e2]
        obtain ⟨q, hq⟩ : ∃ q, mdV d n k = q := ⟨_, rfl⟩
        obtain ⟨x, hx⟩ : ∃ x, mdE d n k = x := ⟨_, rfl⟩
        rw [hx] at h3
        have q0 : (x != 0) = true := by simpa using h3
        have H1 := Lib.hid h1
        have H2 := Lib.hid hd
        have H3 := Lib.hid hx
        have H4 := Lib.hid hq
        clear e1 e2 h1 hd hx hq hd2 h3 hv
        go_enter Tryz.func122, Tryz.ntmps122
        go_wp2_with fail
        refine (qsub_at _ _ d true _ hm hf H2.out H1.out).mono ?_
        rintro e w1 ⟨rfl, rfl⟩
        go_wp2_with fail
        refine (qmuldiv_at _ _ _ q x _ hdb hn hk H4.out H3.out).mono ?_
        rintro e w1 ⟨rfl, hb1⟩
        go_wp2
        go_ret2
        exact ⟨rfl, by exact belowBy⟩
    · have e1 : plO s f m n k = false := by unfold plO; rw [h1, decide_eq_false h2]; rfl
      have e2 : plV s f m n k = 0 := by unfold plV; rw [e1]; rfl
      rw [e1, e2]
      have H1 := Lib.hid h1
      have H2 := Lib.hid hd
      clear e1 e2 h1 hd hd2
      go_enter Tryz.func122, Tryz.ntmps122
      go_wp2_with fail
      refine (qsub_at _ _ d true _ hm hf H2.out H1.out).mono ?_
      rintro e w1 ⟨rfl, rfl⟩
      go_wp2
      go_ret2
      exact ⟨rfl, by exact belowBy⟩

theorem gplace_at (s f m n k v : Int) (o : Bool) (w : World) (hs : -9223372036854775808 ≤ s ∧ s ≤ 9223372036854775807) (hf : -9223372036854775808 ≤ f ∧ f ≤ 9223372036854775807) (hm : -9223372036854775808 ≤ m ∧ m ≤ 9223372036854775807)
    (hn : -9223372036854775808 ≤ n ∧ n ≤ 9223372036854775807) (hk : -9223372036854775808 ≤ k ∧ k ≤ 9223372036854775807) (hv : plV s f m n k = v) (ho : plO s f m n k = o) :
    Calls Tryz.prog 122 #[.int .i64 s, .int .i64 f, .int .i64 m, .int .i64 n, .int .i64 k] w fun e w' => e = .returned (.tuple #[.int .i64 v, .bool o]) ∧ Below w.heap.size w w' := by
  subst hv
  subst ho
  exact gplace_any s f m n k w hs hf hm hn hk



end Go.Proofs.YthhfnageadckkaaGreat

namespace Go.Proofs.YthhfnageadckkaaGreat
open Go.ChangeShapes Go.WideShapes Go.ChangeAt Go.RowKit
attribute [local go_sem] ite_max ite_min vite_max vite_min ite_max0 vite_max0 ext_cell ext_frozen

def wantO (l : LimS) (g : GenS) (P : Int) (O : Bool) : Bool := O && fitB (P - g.p) && decide (mayLo l g ≤ P - g.p ∧ P - g.p ≤ mayHi l g)
def wantV (g : GenS) (P : Int) (O : Bool) : Int := if (O && fitB (P - g.p)) = true then P - g.p else 0

theorem gplace_bd (s f m n k : Int) : -9223372036854775808 ≤ plV s f m n k ∧ plV s f m n k ≤ 9223372036854775807 := by
  unfold plV
  split
  · rename_i h
    simp only [plO, Bool.and_eq_true] at h
    exact of_decide_eq_true h.2
  · omega

set_option maxRecDepth 100000 in
theorem gwant_at (V A D L H p v s f m n k P : Int) (O : Bool) (w : World) (hk0 : okB ⟨V, A, D, L, H⟩ ⟨p, v⟩ = true) (hs : -9223372036854775808 ≤ s ∧ s ≤ 9223372036854775807) (hf : -9223372036854775808 ≤ f ∧ f ≤ 9223372036854775807) (hm : -9223372036854775808 ≤ m ∧ m ≤ 9223372036854775807)
    (hn : -9223372036854775808 ≤ n ∧ n ≤ 9223372036854775807) (hk : -9223372036854775808 ≤ k ∧ k ≤ 9223372036854775807) (hV : plV s f m n k = P) (hO : plO s f m n k = O) (x : Int) (o : Bool) (hx : wantV ⟨p, v⟩ P O = x) (ho : wantO ⟨V, A, D, L, H⟩ ⟨p, v⟩ P O = o) :
    Calls Tryz.prog 101 #[.agg #[.int .i64 V, .int .i64 A, .int .i64 D, .int .i64 L, .int .i64 H], .agg #[.int .i64 p, .int .i64 v], .int .i64 s, .int .i64 f, .int .i64 m, .int .i64 n, .int .i64 k] w fun e w' => e = .returned (.tuple #[.int .i64 x, .bool o]) ∧ Below w.heap.size w w' := by
  have hPb := gplace_bd s f m n k
  rw [hV] at hPb
  have hy := rightB_yes (okB_yes hk0).1
  have hz := safeB_yes (okB_yes hk0).2
  simp only at hy hz
  have hpb : -1099511627776 ≤ p ∧ p ≤ 1099511627776 := by omega
  have HK := Lib.hid hk0
  have HV := Lib.hid hV
  have HO := Lib.hid hO
  have hmb := may_bd _ _ (okB_yes hk0).1 (okB_yes hk0).2
  clear hz hk0 hV hO hy
  cases O
  · have e1 : x = 0 := by rw [← hx]; rfl
    have e2 : o = false := by rw [← ho]; rfl
    subst e1
    subst e2
    clear hx ho
    go_enter Tryz.func101, Tryz.ntmps101
    go_wp2_with fail
    refine (gplace_at _ _ _ _ _ P false _ hs hf hm hn hk HV.out HO.out).mono ?_
    rintro e w1 ⟨rfl, hb1⟩
    go_wp2
    go_ret2
    exact ⟨rfl, by exact belowBy⟩
  · cases h1 : fitB (P - p)
    · have e1 : x = 0 := by rw [← hx]; unfold wantV; rw [h1]; rfl
      have e2 : o = false := by rw [← ho]; unfold wantO; rw [h1]; rfl
      subst e1
      subst e2
      have H1 := Lib.hid h1
      clear hx ho h1
      go_enter Tryz.func101, Tryz.ntmps101
      go_wp2_with fail
      refine (gplace_at _ _ _ _ _ P true _ hs hf hm hn hk HV.out HO.out).mono ?_
      rintro e w1 ⟨rfl, hb1⟩
      obtain ⟨hb1c, hb1f⟩ := bcell hb1
      have hb1z := hb1.size
      have hb1c0 := fun o => hb1c (w.heap.size) o sideBy
      have hb1f0 := fun o => hb1f (w.heap.size) o sideBy
      have hb1l0 := below_lt (b := w.heap.size) hb1 sideBy
      have hb1c1 := fun o => hb1c (w.heap.size + 1) o sideBy
      have hb1f1 := fun o => hb1f (w.heap.size + 1) o sideBy
      have hb1l1 := below_lt (b := w.heap.size + 1) hb1 sideBy
      go_wp2_with fail
      refine (qsub_at _ _ 0 false _ (by omega) (by omega) (fitV_off H1.out) H1.out).mono ?_
      rintro e w2 ⟨rfl, rfl⟩
      go_wp2
      go_ret2
      exact ⟨rfl, by exact belowBy⟩
    · have e1 : x = P - p := by rw [← hx]; unfold wantV; rw [h1]; rfl
      have e2 : o = decide (mayLo ⟨V, A, D, L, H⟩ ⟨p, v⟩ ≤ P - p ∧ P - p ≤ mayHi ⟨V, A, D, L, H⟩ ⟨p, v⟩) := by rw [← ho]; unfold wantO; rw [h1]; rfl
      have e3 : fitV (P - p) = x := by rw [e1]; unfold fitV; rw [h1]; rfl
      rw [← e1] at e2
      obtain ⟨lo, hlo⟩ : ∃ lo, mayLo ⟨V, A, D, L, H⟩ ⟨p, v⟩ = lo := ⟨_, rfl⟩
      obtain ⟨hi, hhi⟩ : ∃ hi, mayHi ⟨V, A, D, L, H⟩ ⟨p, v⟩ = hi := ⟨_, rfl⟩
      have hmay := fun w => gmay_yes V A D L H p v w HK.out
      rw [hlo, hhi] at hmay
      rw [hlo, hhi] at e2 hmb
      have H1 := Lib.hid h1
      have H3 := Lib.hid e3
      have HM := Lib.hid hmay
      have hsplit : (o = false ∧ x < lo) ∨ (o = false ∧ lo ≤ x ∧ hi < x) ∨ (o = true ∧ lo ≤ x ∧ x ≤ hi) := by
        by_cases c1 : lo ≤ x
        · by_cases c2 : x ≤ hi
          · exact .inr (.inr ⟨by rw [e2]; exact decide_eq_true ⟨c1, c2⟩, c1, c2⟩)
          · exact .inr (.inl ⟨by rw [e2]; exact decide_eq_false (fun h => c2 h.2), c1, by omega⟩)
        · exact .inl ⟨by rw [e2]; exact decide_eq_false (fun h => c1 h.1), by omega⟩
      clear hx ho h1 e1 e2 e3 hlo hhi hmay
      rcases hsplit with ⟨rfl, c1⟩ | ⟨rfl, c1, c2⟩ | ⟨rfl, c1, c2⟩
      all_goals
        go_enter Tryz.func101, Tryz.ntmps101
        go_wp2_with fail
        refine (gplace_at _ _ _ _ _ P true _ hs hf hm hn hk HV.out HO.out).mono ?_
        rintro e w1 ⟨rfl, hb1⟩
        obtain ⟨hb1c, hb1f⟩ := bcell hb1
        have hb1z := hb1.size
        have hb1c0 := fun o => hb1c (w.heap.size) o sideBy
        have hb1f0 := fun o => hb1f (w.heap.size) o sideBy
        have hb1l0 := below_lt (b := w.heap.size) hb1 sideBy
        have hb1c1 := fun o => hb1c (w.heap.size + 1) o sideBy
        have hb1f1 := fun o => hb1f (w.heap.size + 1) o sideBy
        have hb1l1 := below_lt (b := w.heap.size + 1) hb1 sideBy
        go_wp2_with fail
        refine (qsub_at _ _ x true _ (by omega) (by omega) H3.out H1.out).mono ?_
        rintro e w2 ⟨rfl, rfl⟩
        go_wp2_with fail
        refine (HM.out _).mono ?_
        rintro e w3 ⟨rfl, hb3⟩
        go_wp2
        go_ret2
        first
          | exact ⟨rfl, by exact belowBy⟩
          | exact ⟨congrArg (fun b => Ending.returned (.tuple #[.int .i64 x, .bool b])) (decide_eq_false (by omega)), by exact belowBy⟩
          | exact ⟨congrArg (fun b => Ending.returned (.tuple #[.int .i64 x, .bool b])) (decide_eq_true (by omega)), by exact belowBy⟩

end Go.Proofs.YthhfnageadckkaaGreat
