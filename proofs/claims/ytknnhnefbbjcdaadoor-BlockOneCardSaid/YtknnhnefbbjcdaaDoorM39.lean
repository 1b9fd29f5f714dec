/- Merged: Layer 20, the reference: the check of a call. PRINTED by wip/tool/mkcall20.py Layer 20, the reference: the check of statements: it answers, of any that fit. -/
import Derived.Test.YtknnhnefbbjcdaaDoorM41
import Derived.Test.YtknnhnefbbjcdaaDoorM42
import Derived.Test.YtknnhnefbbjcdaaDoorM02
import Derived.Test.YtknnhnefbbjcdaaDoorM12
namespace Go.Proofs.YtknnhnefbbjcdaaDoor
open Go.RowKit
set_option linter.unusedVariables false
set_option linter.unusedSimpArgs false
attribute [local go_sem] ite_max ite_min vite_max vite_min ext_cell ext_frozen extS_cell extS_frozen

def isErr (v : Value) (_ : World) : Prop := ∃ a b, v = .agg #[.int .i64 a, .int .i64 b]
theorem isErr.below {v : Value} {w w' : World} (h : isErr v w) (_ : Below w.heap.size w w') : isErr v w' := h
structure CallIn (s : Stm) (m : SM) (w : World) (vA : Option Addr) (vcap nv : Nat) : Prop where
 find : ∀ nm W, Below w.heap.size w W → Calls Tryd.prog 32 #[.slice vA nv vcap, .string nm] W fun e w' => (∃ (v : VarS) (ok : Bool), e = .returned (.tuple #[.agg v.cells.toArray, .bool ok])) ∧ Below W.heap.size W w'
 wants : ∀ x, FitE x → ∀ t W, Below w.heap.size w W → ∀ A k, RowE W A x.sub k → Calls Tryd.prog 60 #[.slice vA nv vcap, .agg (ExC x A k).toArray, .int .i64 t] W fun e w' => ErrR e ∧ Below W.heap.size W w'
 sv : ∀ W B, Below w.heap.size w W → W.heap[B]? = some (.cells (StmC s m).toArray 124) → SV W B 0 s m
 conds : ∀ x ∈ s.conds, FitE x
 len : s.conds.length = s.fields.length
def isVal (v0 : Value) (v : Value) (_ : World) : Prop := v = v0 ∧ True
theorem isVal.below {v0 v : Value} {w w' : World} (h : isVal v0 v w) (_ : Below w.heap.size w w') : isVal v0 v w' := h
theorem SV.field {w : World} {B : Nat} {s : Stm} {m : SM} (h : SV w B 0 s m) {i : Nat} (hi : i < s.fields.length) : ∃ b off x, m.fa = some ⟨b, off, none⟩ ∧ b < w.heap.size ∧ s.fields[i]? = some x ∧ w.cell? ⟨b, off + i, none⟩ = some (.string x) := by
 obtain ⟨b, off, x, cs, hA, hb, hx, rfl, hc⟩ := RowOf.at h.fields hi
 have := hc 0 (by omega)
 rw [Nat.mul_one, Nat.add_zero] at this
 exact ⟨b, off, x, hA, hb, hx, this⟩

set_option maxRecDepth 100000 in
set_option maxHeartbeats 1000000 in
theorem call20_any (s : Stm) (m : SM) (w : World) (vA : Option Addr) (vcap nv : Nat) (hin : CallIn s m w vA vcap nv) : Calls Tryd.prog 61 #[.slice vA nv vcap, .agg (StmC s m).toArray] w fun e w' => ErrR e ∧ Below w.heap.size w w' := by
 have HFIND := Lib.hid hin.find
 have HWA := Lib.hid hin.wants
 have HSV := Lib.hid hin.sv
 have HCX := Lib.hid hin.conds
 obtain ⟨nf, hnf⟩ : ∃ n, s.fields.length = n := ⟨_, rfl⟩
 have hnc : s.conds.length = nf := hin.len.trans hnf
 have HNC := Lib.hid hnc
 have HNF := Lib.hid hnf
 clear hin hnc hnf
 go_enter Tryd.func61, Tryd.ntmps61
 go_upto_region 1 with (refine wpList_boxTo rfl 124 _ rfl _ rfl _ rfl (StmC s m).toArray rfl ?_)
 refine wp_name fun W hW => ?_
 obtain ⟨B, hB⟩ : ∃ B, B = w.heap.size := ⟨_, rfl⟩
 have hB1 : B + 1 = w.heap.size + 1 := by omega
 have hh : W.heap[B]? = some (.cells (StmC s m).toArray 124) := by rw [hW.out, hB]; exact (heap_alloc_old _ _ (by simp)).trans (heap_alloc_new _ _)
 have hR : ResV W (B + 1) := by
  refine ⟨by rw [hW.out, hB]; simp, ?_, ?_, ?_, ?_⟩
  all_goals (rw [hW.out, hB1]; go_simp)
 have hbel : Below w.heap.size w W := by rw [hW.out]; exact belowBy
 have HV := Lib.hid (HSV.out W B hbel hh)
 have HR := Lib.hid hR
 have HB := Lib.hid hbel
 rw [show w.heap.size + 1 = B + 1 by omega, ← hB]
 have hwB : w.heap.size ≤ B := by omega
 have lnf : nf ≤ m.fk := by have := HV.out.fields.1; rw [HNF.out] at this; exact this
 have lnf0 : m.fk ≤ 9223372036854775807 := HV.out.fields.2.1
 have lnc : nf ≤ m.ck := by have := HV.out.conds.1; rw [HNC.out] at this; exact this
 have lnc0 : m.ck ≤ 9223372036854775807 := HV.out.conds.2.1
 clear hW hR hbel hB hB1 hh
 have c1 := HV.out.at0 1 _ rfl
 have c14 := HV.out.at0 14 _ rfl
 have c16 := HV.out.at0 16 _ rfl
 have c18 := HV.out.at0 18 _ rfl
 rw [HNC.out] at c14
 rw [HNF.out] at c16
 have r0 := HR.out.r0
 have r1 := HR.out.r1
 have q0 := HR.out.q0
 have q1 := HR.out.q1
 have lB : B < W.heap.size := HV.out.lt
 have lB1 : B + 1 < W.heap.size := HR.out.lt
 have hz := HB.out.size
 go_wp2_with fail
 refine (HFIND.out s.name _ HB.out).mono ?_
 rintro e w1 ⟨⟨v, ok, rfl⟩, hb⟩
 have HV1 := Lib.hid (HV.out.below hb)
 have HR1 := Lib.hid (HR.out.below hb)
 have HB1 := Lib.hid (HB.out.trans (hb.mono HB.out.size))
 clear c1 c14 c16 c18 r0 r1 q0 q1 lB lB1 hz
 clear hb
 clear HV HR HB
 have c1 := HV1.out.at0 1 _ rfl
 have c14 := HV1.out.at0 14 _ rfl
 have c16 := HV1.out.at0 16 _ rfl
 have c18 := HV1.out.at0 18 _ rfl
 rw [HNC.out] at c14
 rw [HNF.out] at c16
 have r0 := HR1.out.r0
 have r1 := HR1.out.r1
 have q0 := HR1.out.q0
 have q1 := HR1.out.q1
 have lB : B < w1.heap.size := HV1.out.lt
 have lB1 : B + 1 < w1.heap.size := HR1.out.lt
 have hz := HB1.out.size
 go_upto_region 2 with (refine wpList_store_new rfl 45 _ _ rfl w1 _ v.cells.toArray rfl rfl rfl var_size8 rfl (var_one8 v) ?_)
 refine wp_name fun W2 hWn => ?_
 obtain ⟨V, hV⟩ : ∃ V, V = w1.heap.size := ⟨_, rfl⟩
 have hh : W2.heap[V]? = some (.cells v.cells.toArray 45) := by rw [hWn.out, hV]; exact heap_alloc_new _ _
 have hbn : Below w1.heap.size w1 W2 := by rw [hWn.out]; exact belowBy
 rw [← hV]
 obtain ⟨ty, hty⟩ : ∃ t, v.type = t := ⟨_, rfl⟩
 have v1 : W2.cell? ⟨V, 1, none⟩ = some (.int .i64 ty) := by rw [← hty]; exact heap_cell 1 _ hh rfl
 have lV : V < W2.heap.size := (Array.getElem?_eq_some_iff.1 hh).1
 have HV2 := Lib.hid (HV1.out.below hbn)
 have HR2 := Lib.hid (HR1.out.below hbn)
 have HB2 := Lib.hid (HB1.out.trans (hbn.mono HB1.out.size))
 clear hWn hh hV hbn hty
 clear HV1 HR1 HB1
 clear c1 c14 c16 c18 r0 r1 q0 q1 lB lB1 hz
 have c1 := HV2.out.at0 1 _ rfl
 have c14 := HV2.out.at0 14 _ rfl
 have c16 := HV2.out.at0 16 _ rfl
 have c18 := HV2.out.at0 18 _ rfl
 rw [HNC.out] at c14
 rw [HNF.out] at c16
 have r0 := HR2.out.r0
 have r1 := HR2.out.r1
 have q0 := HR2.out.q0
 have q1 := HR2.out.q1
 have lB : B < W2.heap.size := HV2.out.lt
 have lB1 : B + 1 < W2.heap.size := HR2.out.lt
 have hz := HB2.out.size
 cases ok
 ·go_wp2
  refine bodyPost_ret (v := .agg #[.int .i64 9, .int .i64 s.line]) (by simp [results, Tryd.results61, go_sem, r0, r1, q0, q1, lB1]) rfl ⟨⟨_, _, rfl⟩, by have hq := HB2.out; exact belowBy⟩
 ·by_cases h2 : ty ≤ 2
  ·go_wp2
   refine bodyPost_ret (v := .agg #[.int .i64 10, .int .i64 s.line]) (by simp [results, Tryd.results61, go_sem, r0, r1, q0, q1, lB1]) rfl ⟨⟨_, _, rfl⟩, by have hq := HB2.out; exact belowBy⟩
  ·go_upto_region 7 with (fail)
   have HV1 : Hid (∀ W, Below W2.heap.size W2 W → W.cell? ⟨V, 1, none⟩ = some (.int .i64 ty) ∧ V < W.heap.size) := Lib.hid (fun W hW => ⟨(hW.cell (p := ⟨V, 1, none⟩) lV).trans v1, Nat.lt_of_lt_of_le lV hW.size⟩)
   clear c1 c14 c16 c18 r0 r1 q0 q1 lB lB1 hz
   clear v1 lV
   go_loopw [7] (fun vi wr => ∃ (ix : Nat), ix ≤ nf ∧ vi = .int .i64 ix ∧ Below W2.heap.size W2 wr) (fun vi _ => nf - (intOf vi).toNat)
   case atStart => exact ⟨0, by omega, rfl, Below.refl _ _⟩
   case round =>
    obtain ⟨ix, hi, rfl, hbr⟩ := hrel
    have HSr := Lib.hid hbr
    have HVr := Lib.hid (HV2.out.below hbr)
    have HRr := Lib.hid (HR2.out.below hbr)
    have HBr := Lib.hid (HB2.out.trans (hbr.mono HB2.out.size))
    obtain ⟨v1, lV⟩ := HV1.out wr hbr
    clear hbr
    have c1 := HVr.out.at0 1 _ rfl
    have c14 := HVr.out.at0 14 _ rfl
    have c16 := HVr.out.at0 16 _ rfl
    have c18 := HVr.out.at0 18 _ rfl
    rw [HNC.out] at c14
    rw [HNF.out] at c16
    have r0 := HRr.out.r0
    have r1 := HRr.out.r1
    have q0 := HRr.out.q0
    have q1 := HRr.out.q1
    have lB : B < wr.heap.size := HVr.out.lt
    have lB1 : B + 1 < wr.heap.size := HRr.out.lt
    have hz := HBr.out.size
    by_cases hlt : ix < nf
    ·have hi0 : (0 : Int) ≤ (ix : Int) ∧ (ix : Int) < (nf : Int) := by omega
     obtain ⟨bf, of, fi, hfA, lbf, hfi, cfi⟩ := HVr.out.field (i := ix) (by rw [HNF.out]; exact hlt)
     rw [hfA] at c16
     go_upto_region 9 with (fail)
     obtain ⟨pf, hpf⟩ : ∃ r, pinF ty fi = r := ⟨_, rfl⟩
     have HP : Hid (∀ W, Calls Tryd.prog 67 #[.int .i64 ty, .string fi] W fun e w' => e = .returned (pinFV ty pf) ∧ Below W.heap.size W w') := Lib.hid (fun W => by have := pin20_is ty fi W; rwa [hpf] at this)
     clear hpf
     cases pf
     ·replace HP : Hid (∀ W, Calls Tryd.prog 67 #[.int .i64 ty, .string fi] W fun e w' => e = .returned (.tuple #[.agg #[.string ⟨#[]⟩, .int .i64 0, .bool false], .bool false]) ∧ Below W.heap.size W w') := Lib.hid (fun W => HP.out W)
      refine wp_region_wild 12 10 ([{ i := 10, d := 47, R := isVal (.bool false), N := (fun _ => []) }, { i := 11, d := 8, R := isVar (.cells #[.string ⟨#[]⟩, .int .i64 0, .bool false] 57), N := newB }] : List Wd) [false, false, false, false, false, false, false, false, false, false, true, true] rfl (by kernel_rfl) (by kernel_rfl) (fun _ _ _ _ _ h => h) (by kernel_rfl) ?_ ?_
      ·intro x hx v w1 w2 hR hb
       simp only [List.mem_cons, List.not_mem_nil, or_false] at hx
       rcases hx with rfl | rfl
       all_goals (dsimp only at hR ⊢; exact hR.below hb)
      apply Exists.intro
      refine ⟨fun S hS hne => ?_, ?_, ?_, ?_⟩
      ·simp only [List.take_succ_cons, List.take_zero, List.map_cons, List.map_nil]
       delta CS
       repeat (first | with_reducible refine mask_skip ?_ | ((with_reducible refine mask_keep ?_); go_big_quiet_step ((go_at_call 67; exact extS_call hS (HP.out _)))))
       exact mask_nil rfl
      ·skip
       intro x hx he
       simp only [List.mem_cons, List.not_mem_nil, or_false] at hx
       rcases hx with rfl | rfl
       all_goals (dsimp only at he; first | (exact absurd he (by decide)) | clear he)
       intro o ho
       simp only [List.getElem?_cons_succ, List.getElem?_cons_zero, Option.some.injEq] at ho
       subst ho
       intro vs w' hbw hdeps
       simp only [putsF, List.foldl_cons, List.foldl_nil]
       simp only [List.forall_mem_cons, List.not_mem_nil, false_implies, implies_true, and_true] at hdeps
       obtain ⟨dp0, dp1⟩ := hdeps
       clear dp0 dp1
       refine ⟨.bool false, fun u => ?_⟩
       go_simp
      ·skip
       simp only [List.forall_mem_cons, List.not_mem_nil, false_implies, implies_true, and_true]
       refine ⟨?_, ?_⟩
       all_goals
        intro o ho
        simp only [List.getElem?_cons_succ, List.getElem?_cons_zero, Option.some.injEq] at ho
        subst ho
        intro vs w' hbw hdeps
        simp only [putsF, List.foldl_cons, List.foldl_nil]
        refine ⟨by first | rfl | go_simp, ?_⟩
        first | with_reducible refine wild_plain ?_ | with_reducible refine wild_link ?_
        clear hdeps
        go_simp
       ·exact wildUpon_value ⟨⟨rfl, trivial⟩, Below.refl _ _, fun b hb => by cases hb⟩
       ·exact wild_var
      ·skip
       intro vs w' hbw hr hap hlk
       simp only [List.forall_mem_cons, List.not_mem_nil, false_implies, implies_true, and_true] at hr hap
       obtain ⟨hh10, ⟨hh11, n11⟩⟩ := hr
       obtain ⟨e10, t10⟩ := hh10
       obtain ⟨q, e11, hobj⟩ := hh11
       rw [e11] at n11
       clear hlk
       try simp only [e10, e11] at hap
       try simp only [newB_ptr, newB_row, newB_win, newB_win2, List.mem_cons, forall_eq_or_imp, or_false, List.mem_singleton, forall_eq, List.not_mem_nil, false_implies, implies_true, not_false_eq_true, and_true, true_and] at n11 hap
       try simp only [ne_eq, not_true_eq_false, false_implies, true_and, and_true, Nat.reduceEqDiff, not_false_eq_true, forall_const] at hap
       simp only [putsF, List.foldl_cons, List.foldl_nil, e10, e11, List.drop_succ_cons, List.drop_zero]
       clear e10 e11
       clear t10
       have x0 := heap_cell 0 _ hobj rfl
       have x1 := heap_cell 1 _ hobj rfl
       have x2 := heap_cell 2 _ hobj rfl
       have y0 := heap_free 0 hobj
       have y1 := heap_free 1 hobj
       have y2 := heap_free 2 hobj
       have lq : q < w'.heap.size := (Array.getElem?_eq_some_iff.1 hobj).1
       have hqr : wr.heap.size ≤ q := n11.1
       have hrr := HBr.out.size
       have hqb : B + 1 < q := by have := HRr.out.lt; omega
       clear hobj n11
       have HV3 := Lib.hid (HVr.out.below hbw)
       have HR3 := Lib.hid (HRr.out.below hbw)
       have HB3 := Lib.hid (HBr.out.trans (hbw.mono HBr.out.size))
       have HS3 := Lib.hid (HSr.out.trans (hbw.mono HSr.out.size))
       clear c1 c14 c16 c18 r0 r1 q0 q1 lB lB1 hz
       clear hbw v1 cfi lV lbf
       clear HVr HRr HBr
       have c1 := HV3.out.at0 1 _ rfl
       have c14 := HV3.out.at0 14 _ rfl
       have c16 := HV3.out.at0 16 _ rfl
       have c18 := HV3.out.at0 18 _ rfl
       rw [HNC.out] at c14
       rw [HNF.out] at c16
       have r0 := HR3.out.r0
       have r1 := HR3.out.r1
       have q0 := HR3.out.q0
       have q1 := HR3.out.q1
       have lB : B < w'.heap.size := HV3.out.lt
       have lB1 : B + 1 < w'.heap.size := HR3.out.lt
       have hz := HB3.out.size
       go_wp2
       refine bodyPost_ret (v := .agg #[.int .i64 9, .int .i64 s.line]) (by simp [results, Tryd.results61, go_sem, r0, r1, q0, q1, lB1]) rfl ⟨⟨_, _, rfl⟩, by have hq := HB3.out; exact belowBy⟩
     ·rename_i kp
      obtain ⟨ps, hps⟩ : ∃ x, pinNm ty kp = x := ⟨_, rfl⟩
      obtain ⟨pt, hpt⟩ : ∃ x, pinTy ty kp = x := ⟨_, rfl⟩
      obtain ⟨pb, hpb⟩ : ∃ x, pinIn ty kp = x := ⟨_, rfl⟩
      replace HP : Hid (∀ W, Calls Tryd.prog 67 #[.int .i64 ty, .string fi] W fun e w' => e = .returned (.tuple #[.agg #[.string ps, .int .i64 pt, .bool pb], .bool true]) ∧ Below W.heap.size W w') := Lib.hid (fun W => by have := HP.out W; simp only [pinFV, hps, hpt, hpb] at this; exact this)
      clear hps hpt hpb
      refine wp_region_wild 12 10 ([{ i := 10, d := 47, R := isVal (.bool true), N := (fun _ => []) }, { i := 11, d := 8, R := isVar (.cells #[.string ⟨#[]⟩, .int .i64 0, .bool false] 57), N := newB }] : List Wd) [false, false, false, false, false, false, false, false, false, false, true, true] rfl (by kernel_rfl) (by kernel_rfl) (fun _ _ _ _ _ h => h) (by kernel_rfl) ?_ ?_
      ·intro x hx v w1 w2 hR hb
       simp only [List.mem_cons, List.not_mem_nil, or_false] at hx
       rcases hx with rfl | rfl
       all_goals (dsimp only at hR ⊢; exact hR.below hb)
      apply Exists.intro
      refine ⟨fun S hS hne => ?_, ?_, ?_, ?_⟩
      ·simp only [List.take_succ_cons, List.take_zero, List.map_cons, List.map_nil]
       delta CS
       repeat (first | with_reducible refine mask_skip ?_ | ((with_reducible refine mask_keep ?_); go_big_quiet_step ((go_at_call 67; exact extS_call hS (HP.out _)))))
       exact mask_nil rfl
      ·skip
       intro x hx he
       simp only [List.mem_cons, List.not_mem_nil, or_false] at hx
       rcases hx with rfl | rfl
       all_goals (dsimp only at he; first | (exact absurd he (by decide)) | clear he)
       intro o ho
       simp only [List.getElem?_cons_succ, List.getElem?_cons_zero, Option.some.injEq] at ho
       subst ho
       intro vs w' hbw hdeps
       simp only [putsF, List.foldl_cons, List.foldl_nil]
       simp only [List.forall_mem_cons, List.not_mem_nil, false_implies, implies_true, and_true] at hdeps
       obtain ⟨dp0, dp1⟩ := hdeps
       clear dp0 dp1
       refine ⟨.bool true, fun u => ?_⟩
       go_simp
      ·skip
       simp only [List.forall_mem_cons, List.not_mem_nil, false_implies, implies_true, and_true]
       refine ⟨?_, ?_⟩
       all_goals
        intro o ho
        simp only [List.getElem?_cons_succ, List.getElem?_cons_zero, Option.some.injEq] at ho
        subst ho
        intro vs w' hbw hdeps
        simp only [putsF, List.foldl_cons, List.foldl_nil]
        refine ⟨by first | rfl | go_simp, ?_⟩
        first | with_reducible refine wild_plain ?_ | with_reducible refine wild_link ?_
        clear hdeps
        go_simp
       ·exact wildUpon_value ⟨⟨rfl, trivial⟩, Below.refl _ _, fun b hb => by cases hb⟩
       ·exact wild_var
      ·skip
       intro vs w' hbw hr hap hlk
       simp only [List.forall_mem_cons, List.not_mem_nil, false_implies, implies_true, and_true] at hr hap
       obtain ⟨hh10, ⟨hh11, n11⟩⟩ := hr
       obtain ⟨e10, t10⟩ := hh10
       obtain ⟨q, e11, hobj⟩ := hh11
       rw [e11] at n11
       clear hlk
       try simp only [e10, e11] at hap
       try simp only [newB_ptr, newB_row, newB_win, newB_win2, List.mem_cons, forall_eq_or_imp, or_false, List.mem_singleton, forall_eq, List.not_mem_nil, false_implies, implies_true, not_false_eq_true, and_true, true_and] at n11 hap
       try simp only [ne_eq, not_true_eq_false, false_implies, true_and, and_true, Nat.reduceEqDiff, not_false_eq_true, forall_const] at hap
       simp only [putsF, List.foldl_cons, List.foldl_nil, e10, e11, List.drop_succ_cons, List.drop_zero]
       clear e10 e11
       clear t10
       have x0 := heap_cell 0 _ hobj rfl
       have x1 := heap_cell 1 _ hobj rfl
       have x2 := heap_cell 2 _ hobj rfl
       have y0 := heap_free 0 hobj
       have y1 := heap_free 1 hobj
       have y2 := heap_free 2 hobj
       have lq : q < w'.heap.size := (Array.getElem?_eq_some_iff.1 hobj).1
       have hqr : wr.heap.size ≤ q := n11.1
       have hrr := HBr.out.size
       have hqb : B + 1 < q := by have := HRr.out.lt; omega
       clear hobj n11
       go_upto_region 10 with (fail)
       refine wp_name fun W4 hWn => ?_
       have hb4 : Below wr.heap.size wr W4 := by rw [hWn.out]; exact belowBy
       have g1 : W4.cell? ⟨q, 1, none⟩ = some (.int .i64 pt) := by rw [hWn.out]; go_simp
       have g2 : W4.cell? ⟨q, 2, none⟩ = some (.bool pb) := by rw [hWn.out]; go_simp
       have lq4 : q < W4.heap.size := by rw [hWn.out]; first | (simp; done) | (simp; omega)
       clear hWn x0 x1 x2 y0 y1 y2
       have HV4 := Lib.hid (HVr.out.below hb4)
       have HR4 := Lib.hid (HRr.out.below hb4)
       have HB4 := Lib.hid (HBr.out.trans (hb4.mono HBr.out.size))
       have HS4 := Lib.hid (HSr.out.trans (hb4.mono HSr.out.size))
       clear c1 c14 c16 c18 r0 r1 q0 q1 lB lB1 hz
       clear hb4 hbw v1 lV lq
       clear HVr HRr HBr
       have c1 := HV4.out.at0 1 _ rfl
       have c14 := HV4.out.at0 14 _ rfl
       have c16 := HV4.out.at0 16 _ rfl
       have c18 := HV4.out.at0 18 _ rfl
       rw [HNC.out] at c14
       rw [HNF.out] at c16
       have r0 := HR4.out.r0
       have r1 := HR4.out.r1
       have q0 := HR4.out.q0
       have q1 := HR4.out.q1
       have lB : B < W4.heap.size := HV4.out.lt
       have lB1 : B + 1 < W4.heap.size := HR4.out.lt
       have hz := HB4.out.size
       cases pb
       ·go_wp2
        refine bodyPost_ret (v := .agg #[.int .i64 9, .int .i64 s.line]) (by simp [results, Tryd.results61, go_sem, r0, r1, q0, q1, lB1]) rfl ⟨⟨_, _, rfl⟩, by have hq := HB4.out; exact belowBy⟩
       ·obtain ⟨wo, rfl⟩ : ∃ wo : World, wo = wr := ⟨_, rfl⟩
        go_upto_region 13 with (fail)
        have HG1 : Hid (∀ W, Below W4.heap.size W4 W → W.cell? ⟨q, 1, none⟩ = some (.int .i64 pt) ∧ q < W.heap.size) := Lib.hid (fun W hW => ⟨(hW.cell (p := ⟨q, 1, none⟩) lq4).trans g1, Nat.lt_of_lt_of_le lq4 hW.size⟩)
        clear c1 c14 c16 c18 r0 r1 q0 q1 lB lB1 hz
        clear g1 g2 lq4 cfi lbf
        go_loopw [10] (fun vk wk => ∃ (k : Nat), k ≤ ix ∧ vk = .int .i64 k ∧ Below W4.heap.size W4 wk) (fun vk _ => ix - (intOf vk).toNat)
        case atStart => exact ⟨0, by omega, rfl, Below.refl _ _⟩
        case round =>
         obtain ⟨k, hk, rfl, hbk⟩ := hrel
         have HSK := Lib.hid hbk
         have HVk := Lib.hid (HV4.out.below hbk)
         have HRk := Lib.hid (HR4.out.below hbk)
         have HBk := Lib.hid (HB4.out.trans (hbk.mono HB4.out.size))
         have HSk := Lib.hid (HS4.out.trans (hbk.mono HS4.out.size))
         obtain ⟨g1, lq⟩ := HG1.out _ hbk
         clear hbk
         have c1 := HVk.out.at0 1 _ rfl
         have c14 := HVk.out.at0 14 _ rfl
         have c16 := HVk.out.at0 16 _ rfl
         have c18 := HVk.out.at0 18 _ rfl
         rw [HNC.out] at c14
         rw [HNF.out] at c16
         have r0 := HRk.out.r0
         have r1 := HRk.out.r1
         have q0 := HRk.out.q0
         have q1 := HRk.out.q1
         have lB : B < wr.heap.size := HVk.out.lt
         have lB1 : B + 1 < wr.heap.size := HRk.out.lt
         have hz := HBk.out.size
         by_cases hlk : k < ix
         ·have hk0 : (0 : Int) ≤ (k : Int) ∧ (k : Int) < (nf : Int) ∧ (k : Int) < (ix : Int) := by omega
          obtain ⟨bf2, of2, fk, hfA2, lbf2, hfk, cfk⟩ := HVk.out.field (i := k) (by rw [HNF.out]; omega)
          obtain ⟨bf3, of3, fi3, hfA3, lbf3, hfi3, cfi3⟩ := HVk.out.field (i := ix) (by rw [HNF.out]; omega)
          have he : bf3 = bf2 ∧ of3 = of2 := by rw [hfA2] at hfA3; cases hfA3; exact ⟨rfl, rfl⟩
          obtain ⟨rfl, rfl⟩ := he
          rw [hfA2] at c16
          clear hfA3 hfA2 hfA hfk hfi3
          cases hq : (fk.toList == fi3.toList)
          ·go_wp2_with fail
           go_region
           all_goals go_wp2
           all_goals go_roundw
           all_goals first
            | exact ⟨k + 1, by omega, by go_num, by have hq := HSK.out; exact belowBy⟩
            | (simp [intOf]; omega)
          ·go_wp2_with fail
           go_region
           all_goals
            go_wp2
            refine bodyPost_ret (v := .agg #[.int .i64 11, .int .i64 s.line]) (by simp [results, Tryd.results61, go_sem, r0, r1, q0, q1, lB1]) rfl ⟨⟨_, _, rfl⟩, by have hq := HBk.out; exact belowBy⟩
         ·obtain rfl : k = ix := by omega
          have hk0 : (0 : Int) ≤ (k : Int) ∧ (k : Int) < (nf : Int) := by omega
          have hnlt : ¬ (k : Int) < (k : Int) := by omega
          obtain ⟨b', off, y, As, ks, hA, hbl, hy, hya, hys, hrg⟩ := RowE.at HVk.out.conds (i := k) (by rw [HNC.out]; exact hlt)
          rw [hA] at c14
          have HRG := Lib.hid hrg
          have HYS := Lib.hid hys
          have hfy := Lib.hid (HCX.out y (List.mem_of_getElem? hy))
          have z0 : wr.cell? ⟨b', off + k * 6, none⟩ = _ := hrg 0 _ rfl
          have z1 : wr.cell? ⟨b', off + k * 6 + 1, none⟩ = _ := hrg 1 _ rfl
          have z2 : wr.cell? ⟨b', off + k * 6 + 2, none⟩ = _ := hrg 2 _ rfl
          have z3 : wr.cell? ⟨b', off + k * 6 + 3, none⟩ = _ := hrg 3 _ rfl
          have z4 : wr.cell? ⟨b', off + k * 6 + 4, none⟩ = _ := hrg 4 _ rfl
          have z5 : wr.cell? ⟨b', off + k * 6 + 5, none⟩ = _ := hrg 5 _ rfl
          clear hA hy hya hys hrg
          go_upto_region 17 with (fail)
          have lbh := hbl
          refine wp_region_wild 10 1000 ([{ i := 8, d := 85, R := isErr, N := (fun _ => []) }, { i := 9, d := 11, R := isVar (.cells #[.int .i64 0, .int .i64 0] 52), N := newB }] : List Wd) [false, false, false, false, false, false, false, false, true, true] rfl (by kernel_rfl) (by kernel_rfl) (fun _ _ _ _ _ h => h) (by kernel_rfl) ?_ ?_
          ·intro x hx v w1 w2 hR hb
           simp only [List.mem_cons, List.not_mem_nil, or_false] at hx
           rcases hx with rfl | rfl
           all_goals (dsimp only at hR ⊢; exact hR.below hb)
          apply Exists.intro
          refine ⟨fun S hS hne => ?_, ?_, ?_, ?_⟩
          ·simp only [List.take_succ_cons, List.take_zero, List.map_cons, List.map_nil]
           delta CS
           repeat (first | with_reducible refine mask_skip ?_ | ((with_reducible refine mask_keep ?_); go_big_quiet_step (fail)))
           exact mask_nil rfl
          ·intro x hx he
           simp only [List.mem_cons, List.not_mem_nil, or_false] at hx
           rcases hx with rfl | rfl
           all_goals (dsimp only at he; exact absurd he (by decide))
          ·skip
           simp only [List.forall_mem_cons, List.not_mem_nil, false_implies, implies_true, and_true]
           refine ⟨?_, ?_⟩
           all_goals
            intro o ho
            simp only [List.getElem?_cons_succ, List.getElem?_cons_zero, Option.some.injEq] at ho
            subst ho
            intro vs w' hbw hdeps
            simp only [putsF, List.foldl_cons, List.foldl_nil]
            refine ⟨by first | rfl | go_simp, ?_⟩
            first | with_reducible refine wild_plain ?_ | with_reducible refine wild_link ?_
            clear hdeps
            go_simp
           ·apply wildUpon_enter
            refine (HWA.out y hfy.out _ _ (HBk.out.trans (hbw.mono HBk.out.size)) _ _ (HYS.out.below hbw)).mono ?_
            rintro e w' ⟨⟨a, b, rfl⟩, hb⟩
            exact ⟨_, rfl, ⟨a, b, rfl⟩, hb, fun b hb => by cases hb⟩
           ·exact wild_var
          ·skip
           intro vs w' hbw hr hap hlk
           simp only [List.forall_mem_cons, List.not_mem_nil, false_implies, implies_true, and_true] at hr hap
           obtain ⟨hh8, ⟨hh9, n9⟩⟩ := hr
           obtain ⟨a0, b0, e8⟩ := hh8
           obtain ⟨p, e9, hobj⟩ := hh9
           rw [e9] at n9
           clear hlk
           try simp only [e8, e9] at hap
           try simp only [newB_ptr, newB_row, newB_win, newB_win2, List.mem_cons, forall_eq_or_imp, or_false, List.mem_singleton, forall_eq, List.not_mem_nil, false_implies, implies_true, not_false_eq_true, and_true, true_and] at n9 hap
           try simp only [ne_eq, not_true_eq_false, false_implies, true_and, and_true, Nat.reduceEqDiff, not_false_eq_true, forall_const] at hap
           simp only [putsF, List.foldl_cons, List.foldl_nil, e8, e9, List.drop_succ_cons, List.drop_zero]
           clear e8 e9
           have x0 := heap_cell 0 _ hobj rfl
           have x1 := heap_cell 1 _ hobj rfl
           have y0 := heap_free 0 hobj
           have y1 := heap_free 1 hobj
           have lp : p < w'.heap.size := (Array.getElem?_eq_some_iff.1 hobj).1
           have hpr : wr.heap.size ≤ p := n9.1
           have hpb : B + 1 < p := by have := HRk.out.lt; omega
           have hrr2 := HBk.out.size
           go_upto_region 18 with (fail)
           refine wp_name fun W5 hWn => ?_
           have hb5 : Below wr.heap.size wr W5 := by rw [hWn.out]; exact belowBy
           have e0 : W5.cell? ⟨p, 0, none⟩ = some (.int .i64 a0) := by rw [hWn.out]; go_simp
           have e1 : W5.cell? ⟨p, 1, none⟩ = some (.int .i64 b0) := by rw [hWn.out]; go_simp
           have f0 : W5.frozen? ⟨p, 0, none⟩ = false := by rw [hWn.out]; go_simp
           have f1 : W5.frozen? ⟨p, 1, none⟩ = false := by rw [hWn.out]; go_simp
           have lp5 : p < W5.heap.size := by rw [hWn.out]; first | (simp; done) | (simp; omega)
           have HS5 := Lib.hid (HSk.out.trans (hb5.mono HSk.out.size))
           have HV5 := Lib.hid (HVk.out.below hb5)
           have HR5 := Lib.hid (HRk.out.below hb5)
           have HB5 := Lib.hid (HBk.out.trans (hb5.mono HBk.out.size))
           clear c1 c14 c16 c18 r0 r1 q0 q1 lB lB1 hz
           clear hWn hobj n9 x0 x1 y0 y1 lp hb5 hbw lbh hbl g1 lq
           clear HVk HRk HBk
           have c1 := HV5.out.at0 1 _ rfl
           have c14 := HV5.out.at0 14 _ rfl
           have c16 := HV5.out.at0 16 _ rfl
           have c18 := HV5.out.at0 18 _ rfl
           rw [HNC.out] at c14
           rw [HNF.out] at c16
           have r0 := HR5.out.r0
           have r1 := HR5.out.r1
           have q0 := HR5.out.q0
           have q1 := HR5.out.q1
           have lB : B < W5.heap.size := HV5.out.lt
           have lB1 : B + 1 < W5.heap.size := HR5.out.lt
           have hz := HB5.out.size
           by_cases ha : a0 = 0
           ·subst ha
            go_wp2
            go_roundw
            case rel => exact ⟨k + 1, by omega, by go_num, HS5.out⟩
            case measure => simp [intOf]; omega
           ·have hab : (a0 != 0) = true := by simp [ha]
            go_wp2
            refine bodyPost_ret (v := .agg #[.int .i64 a0, .int .i64 b0]) (by simp [results, Tryd.results61, go_sem, r0, r1, q0, q1, lB1]) rfl ⟨⟨_, _, rfl⟩, by have hq := HB5.out; exact belowBy⟩
    ·obtain rfl : ix = nf := by omega
     go_wp2
     refine bodyPost_ret (v := .agg #[.int .i64 0, .int .i64 0]) (by simp [results, Tryd.results61, go_sem, r0, r1, q0, q1, lB1]) rfl ⟨⟨_, _, rfl⟩, by have hq := HBr.out; exact belowBy⟩

end Go.Proofs.YtknnhnefbbjcdaaDoor

namespace Go.Proofs.YtknnhnefbbjcdaaDoor
open Go.RowKit
set_option linter.unusedVariables false
set_option linter.unusedSimpArgs false
attribute [local go_sem] ite_max ite_min vite_max vite_min ext_cell ext_frozen extS_cell extS_frozen

theorem stmt20_any (s : Stm) (m : SM) (w : World) (vA : Option Addr) (vcap nv : Nat) (lp : Bool) (hin : StIn s m w vA vcap nv) : Calls Tryd.prog 54 #[.slice vA nv vcap, .agg (StmC s m).toArray, .bool lp] w fun e w' => ErrR e ∧ Below w.heap.size w w' := by
 have h1 := hin.fit.lo
 have h2 := hin.fit.hi
 rcases (show s.op = 1 ∨ s.op = 2 ∨ s.op = 3 ∨ s.op = 4 ∨ s.op = 5 ∨ s.op = 6 ∨ s.op = 7 ∨ s.op = 8 ∨ s.op = 9 by omega) with h | h | h | h | h | h | h | h | h
 ·exact stmt20_k1 s m w vA vcap nv lp hin h
 ·exact stmt20_k2 s m w vA vcap nv lp hin h
 ·exact stmt20_k3 s m w vA vcap nv lp hin h
 ·exact stmt20_k4 s m w vA vcap nv lp hin h
 ·exact stmt20_k5 s m w vA vcap nv lp hin h
 ·exact stmt20_k6 s m w vA vcap nv lp hin h
 ·exact stmt20_k7 s m w vA vcap nv lp hin h
 ·exact stmt20_k8 s m w vA vcap nv lp hin h
 ·exact stmt20_k9 s m w vA vcap nv lp hin h
theorem FitS.parts {s : Stm} (h : FitS s) : FitS1 s ∧ ∀ bl ∈ s.blocks, ∀ t ∈ bl, FitS t := by
 cases h with
 | mk _ h1 _ _ h2 => exact ⟨h1, h2⟩

set_option maxRecDepth 100000 in
set_option maxHeartbeats 2000000 in
theorem stmts20_at : ∀ (k : Nat) (xs : List Stm), SizeOf.sizeOf xs < k → (∀ s ∈ xs, FitS s) → ∀ (vs : List VarS) (w : World) (vA : Option Addr) (vcap : Nat), RowV w vA vs vcap → ∀ (A : Option Addr) (cap : Nat) (lp : Bool), RowT w A xs cap → Calls Tryd.prog 34 #[.slice vA vs.length vcap, .slice A xs.length cap, .bool lp] w fun e w' => ErrR e ∧ Below w.heap.size w w' := by
 intro k
 induction k with
 | zero => intro xs h; omega
 | succ k ih =>
  intro xs hsz hfit vs w vA vcap hv A cap lp hrow
  have HST : Hid (∀ W, Below w.heap.size w W → ∀ s ∈ xs, ∀ m b o, SV W b o s m → Calls Tryd.prog 54 #[.slice vA vs.length vcap, .agg (StmC s m).toArray, .bool lp] W fun e w' => ErrR e ∧ Below W.heap.size W w') := Lib.hid (fun W hW s hs m b o hsv => by
   obtain ⟨hf1, hf2⟩ := (hfit s hs).parts
   refine stmt20_any s m W vA vcap vs.length lp ⟨fun nm W' hW' => find20_form vs nm W' vA vcap ((hv.below hW).below hW'), fun x hx W' hW' A' k' hr => type20_any x hx vs W' vA A' vcap k' ((hv.below hW).below hW') hr, fun x hx t W' hW' A' k' hr => wants20_any x hx t vs W' vA A' vcap k' ((hv.below hW).below hW') hr,
    fun bl hbl W' hW' A' k' lp' hr => ih bl ?_ (hf2 bl hbl) vs W' vA vcap ((hv.below hW).below hW') A' k' lp' hr,
    fun h9 W' hW' => call20_any s m W' vA vcap vs.length ⟨fun nm W'' hW'' => find20_form vs nm W'' vA vcap (((hv.below hW).below hW').below hW''), fun x hx t W'' hW'' A' k' hr => wants20_any x hx t vs W'' vA A' vcap k' (((hv.below hW).below hW').below hW'') hr, SV.ofAt (hsv.stm.keep hW'), hf1.conds, hf1.c9 h9⟩,
    SV.ofAt hsv.stm, hf1⟩
   obtain ⟨i, hi⟩ := List.getElem?_of_mem hs
   obtain ⟨j, hj⟩ := List.getElem?_of_mem hbl
   have := block_lt hi hj
   omega)
  obtain ⟨n, hn⟩ : ∃ n, xs.length = n := ⟨_, rfl⟩
  have hl := hrow.1
  have hc := hrow.2.1
  have HR := Lib.hid hrow
  rw [hn] at hl ⊢
  have HN := Lib.hid hn
  obtain ⟨nv, hnv⟩ : ∃ n, vs.length = n := ⟨_, rfl⟩
  rw [hnv] at HST ⊢
  clear ih hrow hn hfit hsz hv hnv
  go_enter Tryd.func34, Tryd.ntmps34
  go_upto_region 1 with (fail)
  refine wp_name fun W hW => ?_
  obtain ⟨B, hB⟩ : ∃ B, B = w.heap.size := ⟨_, rfl⟩
  have hR : ResV W B := by
   refine ⟨by rw [hW.out, hB]; simp, ?_, ?_, ?_, ?_⟩
   all_goals (rw [hW.out, hB]; go_simp)
  have hbel : Below w.heap.size w W := by rw [hW.out]; exact belowBy
  have HRV := Lib.hid hR
  have HB := Lib.hid hbel
  have hwB : w.heap.size ≤ B := by omega
  rw [← hB]
  clear hW hR hbel hB
  go_upto_region 2 with (fail)
  go_loopw [7] (fun vi wr => ∃ (i : Nat), i ≤ n ∧ vi = .int .i64 i ∧ Below W.heap.size W wr) (fun vi _ => n - (intOf vi).toNat)
  case atStart => exact ⟨0, by omega, rfl, Below.refl _ _⟩
  case round =>
   obtain ⟨i, hi, rfl, hbr⟩ := hrel
   have HS := Lib.hid hbr
   have HRr := Lib.hid (HRV.out.below hbr)
   have HBr := Lib.hid (HB.out.trans (hbr.mono HB.out.size))
   have r0 := HRr.out.r0
   have r1 := HRr.out.r1
   have q0 := HRr.out.q0
   have q1 := HRr.out.q1
   have lB := HRr.out.lt
   have hz := HBr.out.size
   clear hbr
   by_cases hlt : i < n
   ·obtain ⟨bb, off, s, m, rfl, hbl, hx, hsv⟩ := RowT.at (HR.out.below HBr.out) (i := i) (by rw [HN.out]; exact hlt)
    have hi0 : (0 : Int) ≤ (i : Int) ∧ (i : Int) < (n : Int) := by omega
    have HX := Lib.hid (List.mem_of_getElem? hx)
    have HSV := Lib.hid hsv
    clear hsv hx
    go_wp2_with (refine wpList_load_mid rfl 124 _ rfl bb (off + i * 19) rfl (StmC s m) _ HSV.out.cell Tryd.underlying124 rfl stmt_size ?_)
    refine (HST.out _ HBr.out s HX.out m _ _ HSV.out).mono ?_
    rintro e w1 ⟨⟨a, b, rfl⟩, hb⟩
    have HS1 := Lib.hid (HS.out.trans (hb.mono HS.out.size))
    have HR1 := Lib.hid (HRr.out.below hb)
    have HB1 := Lib.hid (HBr.out.trans (hb.mono HBr.out.size))
    clear r0 r1 q0 q1 lB hz hb HSV HX hbl HS HRr HBr
    have hz := HB1.out.size
    have hzB := HR1.out.lt
    go_upto_region 5 with (fail)
    refine wp_name fun W2 hWn => ?_
    obtain ⟨E, hE⟩ : ∃ E, E = w1.heap.size := ⟨_, rfl⟩
    have e0 : W2.cell? ⟨E, 0, none⟩ = some (.int .i64 a) := by rw [hWn.out, hE]; go_simp
    have e1 : W2.cell? ⟨E, 1, none⟩ = some (.int .i64 b) := by rw [hWn.out, hE]; go_simp
    have hbn : Below w1.heap.size w1 W2 := by rw [hWn.out]; exact belowBy
    rw [← hE]
    have hEB : B < E := by omega
    have HS2 := Lib.hid (HS1.out.trans (hbn.mono HS1.out.size))
    have HR2 := Lib.hid (HR1.out.below hbn)
    have HB2 := Lib.hid (HB1.out.trans (hbn.mono HB1.out.size))
    clear hbn hWn hE hz hzB HS1 HR1 HB1
    have r0 := HR2.out.r0
    have r1 := HR2.out.r1
    have q0 := HR2.out.q0
    have q1 := HR2.out.q1
    have lB := HR2.out.lt
    have hz := HB2.out.size
    by_cases ha : a = 0
    ·subst ha
     go_wp2
     go_roundw
     case rel => exact ⟨i + 1, by omega, by go_num, HS2.out⟩
     case measure => simp [intOf]; omega
    ·have hab : (a != 0) = true := by simp [ha]
     go_wp2
     refine bodyPost_ret (v := .agg #[.int .i64 a, .int .i64 b]) (by simp [results, Tryd.results34, go_sem, r0, r1, q0, q1, lB]) rfl ⟨⟨_, _, rfl⟩, by have hq := HB2.out; exact belowBy⟩
   ·obtain rfl : i = n := by omega
    go_wp2
    refine bodyPost_ret (v := .agg #[.int .i64 0, .int .i64 0]) (by simp [results, Tryd.results34, go_sem, r0, r1, q0, q1, lB]) rfl ⟨⟨_, _, rfl⟩, by have hq := HBr.out; exact belowBy⟩

theorem stmts20_any (xs : List Stm) (hf : ∀ s ∈ xs, FitS s) (vs : List VarS) (w : World) (vA : Option Addr) (vcap : Nat) (hv : RowV w vA vs vcap) (A : Option Addr) (cap : Nat) (lp : Bool) (hr : RowT w A xs cap) :
  Calls Tryd.prog 34 #[.slice vA vs.length vcap, .slice A xs.length cap, .bool lp] w fun e w' => ErrR e ∧ Below w.heap.size w w' :=
 stmts20_at _ xs (Nat.lt_succ_self _) hf vs w vA vcap hv A cap lp hr

end Go.Proofs.YtknnhnefbbjcdaaDoor
