/- Merged: Layer 27: cells, axes and reports out of the row's reading. Layer 27: the laws' own: a program that fits; axes and reports that are few. -/
import Derived.Test.YtknnhnefbbjcdaaDoorM01
import Derived.Test.YtknnhnefbbjcdaaDoorM33
import Derived.Test.YtknnhnefbbjcdaaDoorM37
namespace Go.Proofs.YtknnhnefbbjcdaaDoor
open Go.ChangeShapes Go.WideShapes Go.ChangeAt Go.RowKit
set_option linter.unusedVariables false
set_option linter.unusedSimpArgs false

theorem list_26 {α : Type} (l : List α) (h : l.length = 26) : ∃ a0 a1 a2 a3 a4 a5 a6 a7 a8 a9 b0 b1 b2 b3 b4 b5 b6 b7 b8 b9 c0 c1 c2 c3 c4 c5, l = [a0, a1, a2, a3, a4, a5, a6, a7, a8, a9, b0, b1, b2, b3, b4, b5, b6, b7, b8, b9, c0, c1, c2, c3, c4, c5] := by
 match l, h with | [a0, a1, a2, a3, a4, a5, a6, a7, a8, a9, b0, b1, b2, b3, b4, b5, b6, b7, b8, b9, c0, c1, c2, c3, c4, c5], _ => exact ⟨_, _, _, _, _, _, _, _, _, _, _, _, _, _, _, _, _, _, _, _, _, _, _, _, _, _, rfl⟩
section
variable {H : Type} {enc : TypeId × Value → H} {w : World} {P : Program}
theorem one_int {t : TypeId} {n : Nat} {v : Value} {k : IntKind} (ht : P.underlying t = some (.int k)) (h : RdF enc P w n t [v]) : ∃ z, v = .int k z ∧ (Lit.int k z).wf = true := by
 obtain ⟨z, e, hz⟩ := rd_int ht h.rd
 simp only [List.cons.injEq, and_true] at e
 exact ⟨z, e, hz⟩
theorem one_bool {t : TypeId} {n : Nat} {v : Value} (ht : P.underlying t = some .bool) (h : RdF enc P w n t [v]) : ∃ z, v = .bool z := by
 obtain ⟨z, e⟩ := rd_bool ht h.rd
 simp only [List.cons.injEq, and_true] at e
 exact ⟨z, e⟩
theorem c_limits : Tryd.prog.cellsOf 101 = 5 := by kernel_rfl
theorem c_gen : Tryd.prog.cellsOf 103 = 2 := by kernel_rfl
theorem c_smooth : Tryd.prog.cellsOf 105 = 1 := by kernel_rfl
theorem c_line : Tryd.prog.cellsOf 107 = 2 := by kernel_rfl
theorem c_home : Tryd.prog.cellsOf 109 = 4 := by kernel_rfl
theorem c_axis : Tryd.prog.cellsOf 111 = 26 := by kernel_rfl
theorem c_report : Tryd.prog.cellsOf 75 = 2 := by kernel_rfl
theorem c_reports : Tryd.prog.cellsOf 55 = 1 := by kernel_rfl
theorem c_cmds : Tryd.prog.cellsOf 46 = 1 := by kernel_rfl
theorem nums_of (n : Nat) (A : Option Addr) (len cap : Nat) (h : RdF enc Tryd.prog w n 26 [.slice A len cap]) : ∃ zs : List Int, zs.length = len ∧ RowN w A zs cap := by
 obtain ⟨zs, hl, h1, h2, hd, f, h4, h5⟩ := row_of (size := 1) (bytes := 8) (fun z c => c = [Value.int .i64 z] ∧ I64 z) A len cap Tryd.underlying26 c_i64 (by kernel_rfl) (by decide) (fun k cs hk hcs => by
  obtain ⟨z, e, wz⟩ := rd_int Tryd.underlying2 hcs.rd
  subst e
  exact ⟨rfl, z, rfl, bounds_I64 wz⟩) h
 refine ⟨zs, hl, h1, h2, fun i z hz => ?_⟩
 have hi : i < zs.length := (List.getElem?_eq_some_iff.1 hz).1
 obtain ⟨b, off, hA, hb, hc⟩ := h4 (by intro he; rw [he] at hi; simp at hi)
 refine ⟨b, off, hA, hb, ?_⟩
 have := hc i hi 0 (by decide)
 rw [(h5 i z hz).1] at this
 simpa using this
theorem ax_of (n : Nat) (cs : List Value) (h : RdF enc Tryd.prog w n 111 cs) : cs.length = 26 ∧ ∃ x : AxS, cs = x.cells ∧ x.Ok := by
 obtain ⟨hl, m, hn, hf⟩ := rdf_struct Tryd.underlying111 h
 rw [c_axis] at hl
 obtain ⟨a0, a1, a2, a3, a4, a5, a6, a7, a8, a9, b0, b1, b2, b3, b4, b5, b6, b7, b8, b9, c0, c1, c2, c3, c4, c5, rfl⟩ := list_26 cs hl
 have f0 : RdF enc Tryd.prog w m 3 [a0] := by simpa [c_int] using hf 0 _ rfl
 have f1 : RdF enc Tryd.prog w m 101 [a1, a2, a3, a4, a5] := by simpa [c_limits] using hf 1 _ rfl
 have f2 : RdF enc Tryd.prog w m 3 [a6] := by simpa [c_int] using hf 2 _ rfl
 have f3 : RdF enc Tryd.prog w m 2 [a7] := by simpa [c_i64] using hf 3 _ rfl
 have f4 : RdF enc Tryd.prog w m 2 [a8] := by simpa [c_i64] using hf 4 _ rfl
 have f5 : RdF enc Tryd.prog w m 2 [a9] := by simpa [c_i64] using hf 5 _ rfl
 have f6 : RdF enc Tryd.prog w m 103 [b0, b1] := by simpa [c_gen] using hf 6 _ rfl
 have f7 : RdF enc Tryd.prog w m 105 [b2] := by simpa [c_smooth] using hf 7 _ rfl
 have f8 : RdF enc Tryd.prog w m 2 [b3] := by simpa [c_i64] using hf 8 _ rfl
 have f9 : RdF enc Tryd.prog w m 107 [b4, b5] := by simpa [c_line] using hf 9 _ rfl
 have f10 : RdF enc Tryd.prog w m 4 [b6] := by simpa [c_bool] using hf 10 _ rfl
 have f11 : RdF enc Tryd.prog w m 109 [b7, b8, b9, c0] := by simpa [c_home] using hf 11 _ rfl
 have f12 : RdF enc Tryd.prog w m 3 [c1] := by simpa [c_int] using hf 12 _ rfl
 have f13 : RdF enc Tryd.prog w m 2 [c2] := by simpa [c_i64] using hf 13 _ rfl
 have f14 : RdF enc Tryd.prog w m 2 [c3] := by simpa [c_i64] using hf 14 _ rfl
 have f15 : RdF enc Tryd.prog w m 3 [c4] := by simpa [c_int] using hf 15 _ rfl
 have f16 : RdF enc Tryd.prog w m 4 [c5] := by simpa [c_bool] using hf 16 _ rfl
 obtain ⟨st, rfl, -⟩ := one_int Tryd.underlying3 f0
 obtain ⟨x6, rfl, -⟩ := one_int Tryd.underlying3 f2
 obtain ⟨x7, rfl, -⟩ := one_int Tryd.underlying2 f3
 obtain ⟨x8, rfl, -⟩ := one_int Tryd.underlying2 f4
 obtain ⟨x9, rfl, -⟩ := one_int Tryd.underlying2 f5
 obtain ⟨y3, rfl, -⟩ := one_int Tryd.underlying2 f8
 obtain ⟨y6, rfl⟩ := one_bool Tryd.underlying4 f10
 obtain ⟨z1, rfl, -⟩ := one_int Tryd.underlying3 f12
 obtain ⟨z2, rfl, -⟩ := one_int Tryd.underlying2 f13
 obtain ⟨z3, rfl, -⟩ := one_int Tryd.underlying2 f14
 obtain ⟨z4, rfl, -⟩ := one_int Tryd.underlying3 f15
 obtain ⟨ins, rfl⟩ := one_bool Tryd.underlying4 f16
 obtain ⟨-, m1, -, g1⟩ := rdf_struct Tryd.underlying101 f1
 obtain ⟨-, m6, -, g6⟩ := rdf_struct Tryd.underlying103 f6
 obtain ⟨-, m7, -, g7⟩ := rdf_struct Tryd.underlying105 f7
 obtain ⟨-, m9, -, g9⟩ := rdf_struct Tryd.underlying107 f9
 obtain ⟨-, m11, -, g11⟩ := rdf_struct Tryd.underlying109 f11
 have k1 : RdF enc Tryd.prog w m1 2 [a1] := by simpa [c_i64] using g1 0 _ rfl
 have k2 : RdF enc Tryd.prog w m1 2 [a2] := by simpa [c_i64] using g1 1 _ rfl
 have k3 : RdF enc Tryd.prog w m1 2 [a3] := by simpa [c_i64] using g1 2 _ rfl
 have k4 : RdF enc Tryd.prog w m1 2 [a4] := by simpa [c_i64] using g1 3 _ rfl
 have k5 : RdF enc Tryd.prog w m1 2 [a5] := by simpa [c_i64] using g1 4 _ rfl
 have l0 : RdF enc Tryd.prog w m6 2 [b0] := by simpa [c_i64] using g6 0 _ rfl
 have l1 : RdF enc Tryd.prog w m6 2 [b1] := by simpa [c_i64] using g6 1 _ rfl
 have s0 : RdF enc Tryd.prog w m7 26 [b2] := by simpa [c_ints] using g7 0 _ rfl
 have q0 : RdF enc Tryd.prog w m9 46 [b4] := by simpa [c_cmds] using g9 0 _ rfl
 have q1 : RdF enc Tryd.prog w m9 46 [b5] := by simpa [c_cmds] using g9 1 _ rfl
 have h0 : RdF enc Tryd.prog w m11 3 [b7] := by simpa [c_int] using g11 0 _ rfl
 have h1 : RdF enc Tryd.prog w m11 2 [b8] := by simpa [c_i64] using g11 1 _ rfl
 have h2 : RdF enc Tryd.prog w m11 2 [b9] := by simpa [c_i64] using g11 2 _ rfl
 have h3 : RdF enc Tryd.prog w m11 4 [c0] := by simpa [c_bool] using g11 3 _ rfl
 obtain ⟨x1, rfl, -⟩ := one_int Tryd.underlying2 k1
 obtain ⟨x2, rfl, -⟩ := one_int Tryd.underlying2 k2
 obtain ⟨x3, rfl, -⟩ := one_int Tryd.underlying2 k3
 obtain ⟨x4, rfl, -⟩ := one_int Tryd.underlying2 k4
 obtain ⟨x5, rfl, -⟩ := one_int Tryd.underlying2 k5
 obtain ⟨y0, rfl, -⟩ := one_int Tryd.underlying2 l0
 obtain ⟨vel, rfl, -⟩ := one_int Tryd.underlying2 l1
 obtain ⟨sA, sn, sk, rfl⟩ := slice_form Tryd.underlying26 s0
 obtain ⟨qA, qn, qk, rfl⟩ := slice_form Tryd.underlying46 q0
 obtain ⟨rA, rn, rk, rfl⟩ := slice_form Tryd.underlying46 q1
 obtain ⟨y7, rfl, -⟩ := one_int Tryd.underlying3 h0
 obtain ⟨y8, rfl, -⟩ := one_int Tryd.underlying2 h1
 obtain ⟨y9, rfl, -⟩ := one_int Tryd.underlying2 h2
 obtain ⟨z0, rfl⟩ := one_bool Tryd.underlying4 h3
 refine ⟨rfl, ⟨st, vel, ins, _⟩, rfl, ⟨rfl, rfl, rfl, rfl, by simp [Value.oneCell']⟩⟩
theorem rep_of (n : Nat) (cs : List Value) (h : RdF enc Tryd.prog w n 75 cs) : cs.length = 2 ∧ ∃ r : Int × Int, cs = [.int .i64 r.1, .int .i64 r.2] ∧ I64 r.1 ∧ I64 r.2 := by
 obtain ⟨hl, m, hn, hf⟩ := rdf_struct Tryd.underlying75 h
 rw [c_report] at hl
 obtain ⟨a0, a1, rfl⟩ := list_2 cs hl
 have f0 : RdF enc Tryd.prog w m 3 [a0] := by simpa [c_int] using hf 0 _ rfl
 have f1 : RdF enc Tryd.prog w m 3 [a1] := by simpa [c_int] using hf 1 _ rfl
 obtain ⟨x, rfl, wx⟩ := one_int Tryd.underlying3 f0
 obtain ⟨y, rfl, wy⟩ := one_int Tryd.underlying3 f1
 exact ⟨rfl, (x, y), rfl, bounds_I64 wx, bounds_I64 wy⟩
theorem axes_of (n : Nat) (A : Option Addr) (len cap : Nat) (h : RdF enc Tryd.prog w n 27 [.slice A len cap]) : ∃ xs : List AxS, xs.length = len ∧ RowX w A xs cap := by
 obtain ⟨xs, hl, h1, h2, h3, h4⟩ := row_of (size := 26) (bytes := 256) (fun (x : AxS) c => c = x.cells ∧ x.Ok) A len cap Tryd.underlying27 c_axis (by kernel_rfl) (by decide) (fun k cs hk hcs => ax_of k cs hcs) h
 exact ⟨xs, hl, h1, h2, by omega, h4⟩
theorem reps_of (n : Nat) (A : Option Addr) (len cap : Nat) (h : RdF enc Tryd.prog w n 28 [.slice A len cap]) : ∃ ll : List (List (Int × Int)), ll.length = len ∧ RowRR w A ll cap :=
 row_of (size := 1) (bytes := 24) (RepC w) A len cap Tryd.underlying28 c_reports (by kernel_rfl) (by decide) (fun k cs hk hcs => by
  have hl : cs.length = 1 := by
   rcases rdf_slice Tryd.underlying55 hcs with h | ⟨_, _, _, _, _, h, _⟩ <;> rw [h] <;> rfl
  refine ⟨hl, ?_⟩
  obtain ⟨v, rfl⟩ := list_1 cs hl
  obtain ⟨A, len, cap, rfl⟩ := slice_form Tryd.underlying55 hcs
  obtain ⟨l, rfl, hr⟩ := row_of (size := 2) (bytes := 16) (fun (r : Int × Int) c => c = [.int .i64 r.1, .int .i64 r.2] ∧ I64 r.1 ∧ I64 r.2) A len cap Tryd.underlying55 c_report (by kernel_rfl) (by decide) (fun q cs hq hcs => rep_of q cs hcs) hcs
  exact ⟨l, A, cap, rfl, hr⟩) h
end

end Go.Proofs.YtknnhnefbbjcdaaDoor

namespace Go.Proofs.YtknnhnefbbjcdaaDoor
open Go.RowKit
set_option linter.unusedVariables false
set_option linter.unusedSimpArgs false
attribute [local go_sem] ite_max ite_min vite_max vite_min ext_cell ext_frozen

set_option maxRecDepth 100000 in
set_option maxHeartbeats 4000000 in
theorem fits27_any (p : Prg) (cs : List Value) (w : World) (h : PrgAt w p cs) (hsm : ∀ s ∈ p.body, SmS s) : Calls Tryd.prog 5 #[.agg cs.toArray] w fun e w' => BoolIf (FitP p ∧ DiffN p.vars ∧ sumN p.vars ≤ 1024) e ∧ Below w.heap.size w w' := by
 obtain ⟨Av, kv, Ab, kb, rfl, hv, hbd⟩ := h
 have HP : Hid (PrgAt w p [.string p.name, .slice Av p.vars.length kv, .slice Ab p.body.length kb]) := Lib.hid ⟨Av, kv, Ab, kb, rfl, hv, hbd⟩
 have HSM := Lib.hid hsm
 clear hv hbd hsm
 go_enter Tryd.func5, Tryd.ntmps5
 go_upto_region 1 with (fail)
 refine wp_name fun W hW => ?_
 obtain ⟨B, hB⟩ : ∃ B, B = w.heap.size := ⟨_, rfl⟩
 have hC : PrgC W B p.name Av p.vars.length kv Ab p.body.length kb := by
  refine ⟨by rw [hW.out, hB]; simp, ?_, ?_, ?_⟩
  all_goals (rw [hW.out, hB]; go_simp)
 have hbel : Below w.heap.size w W := by rw [hW.out]; exact belowBy
 rw [← hB]
 have HC := Lib.hid hC
 have HB := Lib.hid hbel
 obtain ⟨lB, c0, c1, c2⟩ := hC
 clear hW hbel hB
 go_wp2_with fail
 refine (short_any p _ _ (HP.out.keep HB.out)).mono ?_
 rintro e w1 ⟨⟨b, rfl⟩, hb⟩
 have HC1 := Lib.hid (HC.out.below hb)
 have HB1 := Lib.hid (HB.out.trans (hb.mono HB.out.size))
 clear lB c0 c1 c2 hb HC HB
 obtain ⟨lB, c0, c1, c2⟩ := HC1.out
 cases b
 ·go_wp2
  go_ret
  exact ⟨⟨_, rfl, fun h => by cases h⟩, HB1.out⟩
 go_wp2_with fail
 refine (fits_any p _ _ (HP.out.keep HB1.out) HSM.out).mono ?_
 rintro e w2 ⟨⟨b, rfl, hf⟩, hb⟩
 have HF := Lib.hid hf
 have HC2 := Lib.hid (HC1.out.below hb)
 have HB2 := Lib.hid (HB1.out.trans (hb.mono HB1.out.size))
 clear lB c0 c1 c2 hb HC1 HB1 hf
 obtain ⟨lB, c0, c1, c2⟩ := HC2.out
 cases b
 ·go_wp2
  go_ret
  exact ⟨⟨_, rfl, fun h => by cases h⟩, HB2.out⟩
 have HF2 := Lib.hid (HF.out rfl)
 go_wp2_with fail
 refine (check20_any p _ _ (HP.out.keep HB2.out) HF2.out).mono ?_
 rintro e w3 ⟨⟨a, b, rfl, hc⟩, hb⟩
 have HCK := Lib.hid hc
 have HB3 := Lib.hid (HB2.out.trans (hb.mono HB2.out.size))
 clear lB c0 c1 c2 hb HC2 HB2 hc
 have hfd : ∀ w : World, (Instr.field 52 (.agg #[.int .i64 a, .int .i64 b]) 0).run Tryd.prog w = .ok (.int .i64 a) w := fun _ => by kernel_rfl
 by_cases ha : a = 0
 ·subst ha
  go_wp2
  go_ret
  exact ⟨⟨_, rfl, fun _ => ⟨HF2.out, HCK.out (by first | trivial | rfl)⟩⟩, HB3.out⟩
 ·have hab : (a == 0) = false := by simp [ha]
  go_wp2
  go_ret
  exact ⟨⟨_, rfl, fun h => by cases h⟩, HB3.out⟩

set_option maxRecDepth 100000 in
set_option maxHeartbeats 4000000 in
theorem few_any (xs : List AxS) (Ax : Option Addr) (kx : Nat) (ll : List (List (Int × Int))) (Ar : Option Addr) (kr : Nat) (w : World) (hrr : RowRR w Ar ll kr) : Calls Tryd.prog 7 #[.slice Ax xs.length kx, .slice Ar ll.length kr] w fun e w' => BoolIf (xs.length ≤ 4) e ∧ Below w.heap.size w w' := by
 have HR := Lib.hid hrr
 have hm1 := hrr.1
 have hm2 := hrr.2.1
 obtain ⟨n, hn⟩ : ∃ n, xs.length = n := ⟨_, rfl⟩
 obtain ⟨m, hm⟩ : ∃ n, ll.length = n := ⟨_, rfl⟩
 rw [hm] at hm1
 rw [hn, hm]
 have HM := Lib.hid hm
 clear hm hn hrr
 go_enter Tryd.func7, Tryd.ntmps7
 by_cases h4 : (4 : Int) < (n : Int)
 ·go_wp2
  go_ret
  exact ⟨⟨_, rfl, fun h => by cases h⟩, by exact belowBy⟩
 by_cases h10 : (10 : Int) < (m : Int)
 ·go_wp2
  go_ret
  exact ⟨⟨_, rfl, fun h => by cases h⟩, by exact belowBy⟩
 go_wp2_with fail
 go_loopw [5] (fun vi wr => ∃ (i : Nat), i ≤ m ∧ vi = .int .i64 i ∧ Below w.heap.size w wr) (fun vi _ => m - (intOf vi).toNat)
 case atStart => exact ⟨0, by omega, rfl, by exact belowBy⟩
 case round =>
  obtain ⟨i, hi, rfl, hbr⟩ := hrel
  by_cases hlt : i < m
  ·obtain ⟨b1, o1, l, cs, rfl, hb1, hl, ⟨A', c', rfl, hrow⟩, hcell⟩ := RowOf.at (HR.out.below hbr) (i := i) (by rw [HM.out]; exact hlt)
   have c1 := hcell 0 (by decide)
   simp only [Nat.mul_one, Nat.add_zero, List.getElem?_cons_zero] at c1
   have hi0 : (0 : Int) ≤ (i : Int) ∧ (i : Int) < (m : Int) := by omega
   obtain ⟨q, hq⟩ : ∃ q, l.length = q := ⟨_, rfl⟩
   rw [hq] at c1
   clear hl hrow hcell hq
   by_cases h100 : (100 : Int) < (q : Int)
   ·go_wp2_with fail
    go_ret
    exact ⟨⟨_, rfl, fun h => by cases h⟩, by exact belowBy⟩
   ·go_wp2_with fail
    go_roundw
    case rel => exact ⟨i + 1, by omega, by go_num, by exact belowBy⟩
    case measure => simp [intOf]; omega
  ·obtain rfl : i = m := by omega
   go_wp2
   go_ret
   exact ⟨⟨_, rfl, fun _ => by omega⟩, hbr⟩

end Go.Proofs.YtknnhnefbbjcdaaDoor
