/- Merged: Could the program have been read? Told exactly, in plain Lean. Could the program have been read? Told exactly. PRINTED by wip/tool/mkfitq.py -/
import Derived.Test.YtcamegfnhbbaeaaM21
import Derived.Test.YtcamegfnhbbaeaaM26
import Derived.Test.YtcamegfnhbbaeaaTreeM
import Derived.Test.YtcamegfnhbbaeaaFyC
namespace Go.Proofs.Ytcamegfnhbbaeaa
open Go.RowKit
set_option linter.unusedVariables false
set_option linter.unusedSimpArgs false

def vA (nm : ByteArray) (sc : Int) : Bool := nameB nm && decide (0 ≤ sc ∧ sc ≤ 2)
def vT (ty : Int) : Bool := decide (ty = 1 ∨ ty = 2 ∨ ¬ (rnameOf ty).toList = [])
def vR (ar : Bool) (ty lo hi : Int) : Bool := if ar = true then decide (ty ≤ 2 ∧ 0 ≤ lo ∧ lo ≤ hi ∧ hi ≤ 255) else decide (lo = 0 ∧ hi = 0)
def vI (ar : Bool) (ty it : Int) : Bool := decide (ar = true ∨ 2 < ty → it = 0) && decide (ty = 2 → 0 ≤ it ∧ it ≤ 1) && decide (it ≠ -9223372036854775808)
def varB (v : VarS) : Bool := vA v.name v.sect && vT v.type && vR v.arr v.type v.lo v.hi && vI v.arr v.type v.init
def fitPB (p : Prg) : Bool := nameB p.name && decide (p.vars.length ≤ 64) && p.vars.all varB && fitSsB p.body
theorem vb_A {v : VarS} (h : vA v.name v.sect = false) : varB v = false := by unfold varB; rw [h]; rfl
theorem vb_T {v : VarS} (h : vT v.type = false) : varB v = false := by unfold varB; rw [h]; simp
theorem vb_R {v : VarS} (h : vR v.arr v.type v.lo v.hi = false) : varB v = false := by unfold varB; rw [h]; simp
theorem vb_I {v : VarS} (h : vI v.arr v.type v.init = false) : varB v = false := by unfold varB; rw [h]; simp
theorem vb_yes {v : VarS} (h1 : vA v.name v.sect = true) (h2 : vT v.type = true) (h3 : vR v.arr v.type v.lo v.hi = true) (h4 : vI v.arr v.type v.init = true) : varB v = true := by unfold varB; rw [h1, h2, h3, h4]; rfl
theorem fp_N {p : Prg} (h : nameB p.name = false) : fitPB p = false := by unfold fitPB; rw [h]; rfl
theorem fp_L {p : Prg} (h : 64 < p.vars.length) : fitPB p = false := by unfold fitPB; rw [show decide (p.vars.length ≤ 64) = false from decide_eq_false (by omega)]; simp
theorem fp_V {p : Prg} (h : p.vars.all varB = false) : fitPB p = false := by unfold fitPB; rw [h]; simp
theorem fp_yes {p : Prg} {b : Bool} (h1 : nameB p.name = true) (h2 : p.vars.length ≤ 64) (h3 : p.vars.all varB = true) (h4 : fitSsB p.body = b) : fitPB p = b := by unfold fitPB; rw [h1, h3, h4, show decide (p.vars.length ≤ 64) = true from decide_eq_true h2]; rfl
theorem vA_0 {nm : ByteArray} {sc : Int} (h : nameB nm = false) : vA nm sc = false := by unfold vA; rw [h]; rfl
theorem vA_1 {nm : ByteArray} {sc : Int} (h : nameB nm = true) : vA nm sc = decide (0 ≤ sc ∧ sc ≤ 2) := by unfold vA; rw [h]; rfl
theorem varB_fit {v : VarS} (h : varB v = true) : VarFit v := by
  unfold varB at h
  simp only [Bool.and_eq_true] at h
  obtain ⟨⟨⟨h1, h2⟩, h3⟩, h4⟩ := h
  unfold vA at h1
  simp only [Bool.and_eq_true, decide_eq_true_eq] at h1
  refine ⟨nameB_size h1.1, h1.2.1, h1.2.2, fun h => ?_⟩
  unfold vR at h3
  rw [if_pos h] at h3
  exact of_decide_eq_true h3
theorem fitPB_fit {p : Prg} (h : fitPB p = true) : FitP p := by
  unfold fitPB at h
  simp only [Bool.and_eq_true, decide_eq_true_eq] at h
  obtain ⟨⟨⟨h1, h2⟩, h3⟩, h4⟩ := h
  exact ⟨nameB_size h1, h2, fun v hv => varB_fit (List.all_eq_true.1 h3 v hv), fitSsB_fit _ h4⟩

end Go.Proofs.Ytcamegfnhbbaeaa

namespace Go.Proofs.Ytcamegfnhbbaeaa
open Go.RowKit
set_option linter.unusedVariables false
set_option linter.unusedSimpArgs false
attribute [local go_sem] ite_max ite_min vite_max vite_min ext_cell ext_frozen

theorem gt64 (n : Nat) : decide ((64 : Int) < (n : Int)) = !(true && decide (n ≤ 64)) := by
  by_cases h : n ≤ 64
  · rw [decide_eq_true h, decide_eq_false (by omega)]; rfl
  · rw [decide_eq_false h, decide_eq_true (by omega)]; rfl
theorem gtsc (sc : Int) (h0 : ¬ sc < 0) : decide (2 < sc) = !decide (0 ≤ sc ∧ sc ≤ 2) := by
  by_cases h : sc ≤ 2
  · rw [decide_eq_false (by omega), decide_eq_true (⟨by omega, h⟩ : 0 ≤ sc ∧ sc ≤ 2)]; rfl
  · rw [decide_eq_true (by omega), decide_eq_false (fun h2 => h h2.2)]; rfl
theorem gtsc2 (sc : Int) : (decide (sc < 0) || decide (2 < sc)) = !decide (0 ≤ sc ∧ sc ≤ 2) := by
  by_cases h0 : sc < 0
  · rw [decide_eq_true h0, decide_eq_false (show ¬ (0 ≤ sc ∧ sc ≤ 2) from fun h => by omega)]; rfl
  · rw [decide_eq_false h0, gtsc sc h0]; rfl
theorem isE {α : Type} (l : List α) [Decidable (l = [])] : l.isEmpty = decide (l = []) := by
  cases l <;> simp
set_option maxRecDepth 100000 in
set_option maxHeartbeats 8000000 in
theorem fits_is (p : Prg) (cs : List Value) (w : World) (h : PrgAt w p cs) (hsm : ∀ s ∈ p.body, SmS s) : Calls Try.prog 10 #[.agg cs.toArray] w fun e w' => e = .returned (.bool (fitPB p)) ∧ Below w.heap.size w w' := by
  obtain ⟨Av, kv, Ab, kb, rfl, hv, hbd⟩ := h
  have HRV := Lib.hid hv
  have HRB := Lib.hid hbd
  have HSM := Lib.hid hsm
  have hv1 := hv.1
  have hv2 := hv.2.1
  obtain ⟨n, hn⟩ : ∃ n, p.vars.length = n := ⟨_, rfl⟩
  obtain ⟨nb, hnb⟩ : ∃ n, p.body.length = n := ⟨_, rfl⟩
  rw [hn] at hv1
  rw [hn, hnb]
  have HN := Lib.hid hn
  have HNB := Lib.hid hnb
  obtain ⟨res, hres⟩ : ∃ r, fitPB p = r := ⟨_, rfl⟩
  have HRES := Lib.hid hres
  rw [hres]
  have HNO : Hid (fitPB p = false → res = false) := Lib.hid (fun h => by rw [← HRES.out]; exact h)
  clear hv hbd hsm hn hnb hres
  go_enter Try.func10, Try.ntmps10
  go_upto_region 1 with (fail)
  refine wp_name fun W0 hW0 => ?_
  obtain ⟨B, hB⟩ : ∃ B, B = w.heap.size := ⟨_, rfl⟩
  have hh : W0.heap[B]? = some (.cells #[.string p.name, .slice Av n kv, .slice Ab nb kb] 30) := by rw [hW0.out, hB]; exact heap_alloc_new _ _
  have hbel : Below w.heap.size w W0 := by rw [hW0.out]; (repeat' (first | (with_reducible exact Below.refl _ _) | (with_reducible assumption) | (with_reducible refine below_drewN ?_ _) | (with_reducible refine Below.drew ?_) | (with_reducible refine below_new ?_ (Nat.le_refl _) _) | (with_reducible refine Below.setCell ?_ ?_ _) | (with_reducible refine below_go ?_ (by assumption) (Nat.le_refl _)) | (simp; done) | (simp; omega) | omega))
  have e0 : W0.cell? ⟨B, 0, none⟩ = some (.string p.name) := heap_cell 0 _ hh rfl
  have e1 : W0.cell? ⟨B, 1, none⟩ = some (.slice Av n kv) := heap_cell 1 _ hh rfl
  have e2 : W0.cell? ⟨B, 2, none⟩ = some (.slice Ab nb kb) := heap_cell 2 _ hh rfl
  have hlB : B < W0.heap.size := (Array.getElem?_eq_some_iff.1 hh).1
  have HB0 := Lib.hid hbel
  have HE1 := Lib.hid e1
  have HE2 := Lib.hid e2
  have HLB := Lib.hid hlB
  rw [← hB]
  clear hh hbel hW0 hB e2
  go_cut [14] from 5 to 14 (fun r wx => ∃ b : Bool, r = .bool b ∧ Hid (Below W0.heap.size W0 wx ∧ b = !(nameB p.name && decide (n ≤ 64))))
  case first =>
    obtain ⟨bn, hnm⟩ : ∃ r, nameB p.name = r := ⟨_, rfl⟩
    have HNI := Lib.hid (fun w => name_is p.name w)
    rw [hnm] at HNI
    have HNN := Lib.hid hnm
    clear hnm
    go_wp2_with fail
    refine (HNI.out _).mono ?_
    rintro e wn ⟨rfl, hbn⟩
    have HBN := Lib.hid hbn
    have e1' := (hbn.cell (p := ⟨B, 1, none⟩) hlB).trans e1
    have hln : B < wn.heap.size := Nat.lt_of_lt_of_le hlB hbn.size
    clear hbn e0 e1
    cases bn
    · go_wp2
      go_meet
      case rel => exact ⟨_, rfl, Lib.hid ⟨HBN.out, by rw [HNN.out]; rfl⟩⟩
    · go_wp2
      go_meet
      case rel => exact ⟨_, rfl, Lib.hid ⟨HBN.out, by rw [HNN.out]; exact gt64 n⟩⟩
  case rest =>
    obtain ⟨b, rfl, HC⟩ := hcut
    obtain ⟨hbc, hfc⟩ := HC.out
    have HB1 := Lib.hid (HB0.out.trans (hbc.mono HB0.out.size))
    have e1' := (hbc.cell (p := ⟨B, 1, none⟩) hlB).trans e1
    have e2' := (hbc.cell (p := ⟨B, 2, none⟩) hlB).trans HE2.out
    have hl1 : B < wc.heap.size := Nat.lt_of_lt_of_le hlB hbc.size
    have HFC := Lib.hid hfc
    have HE1 := Lib.hid e1'
    have HE2 := Lib.hid e2'
    obtain ⟨W1, rfl⟩ : ∃ W : World, W = wc := ⟨_, rfl⟩
    clear HC hbc hfc e0 e1 e1' e2' hlB
    cases b
    · have hfc := not_f HFC.out
      clear HFC
      rw [Bool.and_eq_true] at hfc
      have HNMP := Lib.hid hfc.1
      have h64 := of_decide_eq_true hfc.2
      clear hfc
      go_wp2_with fail
      go_loopw [3] (fun vi wr => ∃ (j : Nat), j ≤ n ∧ vi = .int .i64 j ∧ Hid (∀ q z, q < j → p.vars[q]? = some z → varB z = true) ∧ Below W1.heap.size W1 wr) (fun vi _ => n - (intOf vi).toNat)
      case atStart => exact ⟨0, by omega, rfl, Lib.hid (fun q _ hq => by omega), Below.refl _ _⟩
      case round =>
        obtain ⟨j, hj, rfl, HIN, hbq⟩ := hrel
        have e1 := (hbq.cell (p := ⟨B, 1, none⟩) hl1).trans HE1.out
        have hlr : B < wr.heap.size := Nat.lt_of_lt_of_le hl1 hbq.size
        by_cases hlt : j < n
        · have hj0 : (0 : Int) ≤ (j : Int) ∧ (j : Int) < (n : Int) := by omega
          obtain ⟨bb, off, v, hA1, hbl, hz1, hrg⟩ := RowV.at8 (HRV.out.below (HB1.out.trans (hbq.mono HB1.out.size))) (i := j) (by rw [HN.out]; exact hlt)
          rw [hA1] at e1
          have HZ1 := Lib.hid hz1
          have HRG := Lib.hid hrg
          have HBQ := Lib.hid hbq
          clear hz1 hrg hA1 hbq
          go_upto_region 7 with (first
            | refine wpList_load_mid rfl 53 _ rfl bb (off + j * 8) rfl v.cells _ HRG.out Try.underlying53 rfl var_size8 ?_
            | refine wpList_store_new rfl 53 _ _ rfl wr _ v.cells.toArray rfl rfl rfl var_size8 rfl (var_one8 v) ?_)
          refine wp_name fun W3 hW3 => ?_
          obtain ⟨H, hH⟩ : ∃ H, H = wr.heap.size := ⟨_, rfl⟩
          rw [← hH]
          simp only [Act.put]
          have hB3 : Below wr.heap.size wr W3 := by rw [hW3.out]; (repeat' (first | (with_reducible exact Below.refl _ _) | (with_reducible assumption) | (with_reducible refine below_drewN ?_ _) | (with_reducible refine Below.drew ?_) | (with_reducible refine below_new ?_ (Nat.le_refl _) _) | (with_reducible refine Below.setCell ?_ ?_ _) | (with_reducible refine below_go ?_ (by assumption) (Nat.le_refl _)) | (simp; done) | (simp; omega) | omega))
          have hh : W3.heap[H]? = some (.cells v.cells.toArray 53) := by rw [hW3.out, hH]; exact heap_alloc_new _ _
          have HW3 : Hid (VarC W3 H v) := Lib.hid ⟨(Array.getElem?_eq_some_iff.1 hh).1, fun j u hu => heap_cell j _ hh (by rw [List.getElem?_toArray]; exact hu)⟩
          have HB3 := Lib.hid (HBQ.out.trans (hB3.mono HBQ.out.size))
          have hl3 : H < W3.heap.size := HW3.out.1
          clear hW3 hB3 hh hH e1 hlr HRG HBQ
          obtain ⟨ty, hq1⟩ : ∃ x, v.type = x := ⟨_, rfl⟩
          obtain ⟨sc, hq2⟩ : ∃ x, v.sect = x := ⟨_, rfl⟩
          obtain ⟨ar, hq3⟩ : ∃ x, v.arr = x := ⟨_, rfl⟩
          obtain ⟨lo, hq4⟩ : ∃ x, v.lo = x := ⟨_, rfl⟩
          obtain ⟨hi, hq5⟩ : ∃ x, v.hi = x := ⟨_, rfl⟩
          obtain ⟨it, hq6⟩ : ∃ x, v.init = x := ⟨_, rfl⟩
          have HQ1 := Lib.hid hq1
          have HQ2 := Lib.hid hq2
          have HQ3 := Lib.hid hq3
          have HQ4 := Lib.hid hq4
          have HQ5 := Lib.hid hq5
          have HQ6 := Lib.hid hq6
          clear hq1 hq2 hq3 hq4 hq5 hq6
          go_cut [40] from 27 to 40 (fun r wx => ∃ b : Bool, r = .bool b ∧ Hid (Below W3.heap.size W3 wx ∧ b = !vA v.name sc))
          case first =>
            have d0 : W3.cell? ⟨H, 0, none⟩ = some (.string v.name) := HW3.out.2 0 _ rfl
            have d2 : W3.cell? ⟨H, 2, none⟩ = some (.int .i64 sc) := by have := HW3.out.2 2 _ rfl; rwa [HQ2.out] at this
            obtain ⟨bn, hnm⟩ : ∃ r, nameB v.name = r := ⟨_, rfl⟩
            have HNI := Lib.hid (fun w => name_is v.name w)
            rw [hnm] at HNI
            have HNN := Lib.hid hnm
            clear hnm
            go_wp2_with fail
            refine (HNI.out _).mono ?_
            rintro e wn ⟨rfl, hbn⟩
            have HBN := Lib.hid hbn
            have d2' := (hbn.cell (p := ⟨H, 2, none⟩) hl3).trans d2
            have hln : H < wn.heap.size := Nat.lt_of_lt_of_le hl3 hbn.size
            clear hbn d0 d2
            cases bn
            · go_wp2
              go_meet
              case rel => exact ⟨_, rfl, Lib.hid ⟨HBN.out, by rw [vA_0 HNN.out]; rfl⟩⟩
            · by_cases h0 : sc < 0
              · go_wp2
                go_meet
                case rel => exact ⟨_, rfl, Lib.hid ⟨HBN.out, by rw [vA_1 HNN.out]; simp; omega⟩⟩
              · go_wp2
                go_meet
                case rel => exact ⟨_, rfl, Lib.hid ⟨HBN.out, by rw [vA_1 HNN.out]; exact gtsc2 sc⟩⟩
          case rest =>
            obtain ⟨b, rfl, HC⟩ := hcut
            obtain ⟨hbc, hfc⟩ := HC.out
            have HW4 := Lib.hid (varC_below HW3.out hbc)
            have HB4 := Lib.hid (HB3.out.trans (hbc.mono HB3.out.size))
            obtain ⟨W4, rfl⟩ : ∃ W : World, W = wc := ⟨_, rfl⟩
            have hl4 : H < W4.heap.size := HW4.out.1
            have HFC := Lib.hid hfc
            clear HC hbc hfc HW3 HB3 hl3
            cases b
            · have hfc := not_f HFC.out
              clear HFC
              have HO7 := Lib.hid hfc
              clear hfc
              go_upto_region 9 with fail
              go_cut [54] from 41 to 54 (fun r wx => ∃ b : Bool, r = .bool b ∧ Hid (Below W4.heap.size W4 wx ∧ b = !vT ty))
              case first =>
                have d1 : W4.cell? ⟨H, 1, none⟩ = some (.int .i64 ty) := by have := HW4.out.2 1 _ rfl; rwa [HQ1.out] at this
                by_cases h1 : ty = 1
                · have t1 : (ty != 1) = false := by simp [h1]
                  have K1 := Lib.hid h1
                  clear h1
                  go_wp2
                  go_meet
                  case rel => exact ⟨_, rfl, Lib.hid ⟨Below.refl _ _, by have := K1.out; first | (simp [vT]; done) | (simp [vT]; omega) | (simp [vT, *]; done)⟩⟩
                · have t1 : (ty != 1) = true := by simp [h1]
                  have K1 := Lib.hid h1
                  by_cases h2 : ty = 2
                  · have t2 : (ty != 2) = false := by simp [h2]
                    have K2 := Lib.hid h2
                    clear h2 h1
                    go_wp2
                    go_meet
                    case rel => exact ⟨_, rfl, Lib.hid ⟨Below.refl _ _, by have := K2.out; first | (simp [vT]; done) | (simp [vT]; omega) | (simp [vT, *]; done)⟩⟩
                  · have t2 : (ty != 2) = true := by simp [h2]
                    have K2 := Lib.hid h2
                    go_wp2_with fail
                    refine (rname_any ty _).mono ?_
                    rintro e wn ⟨rfl, hbn⟩
                    have HBN := Lib.hid hbn
                    clear hbn d1
                    go_wp2
                    go_meet
                    case rel => exact ⟨_, rfl, Lib.hid ⟨HBN.out, by simp [vT, K1.out, K2.out]; exact isE _⟩⟩
              case rest =>
                obtain ⟨b, rfl, HC⟩ := hcut
                obtain ⟨hbc, hfc⟩ := HC.out
                have HW5 := Lib.hid (varC_below HW4.out hbc)
                have HB5 := Lib.hid (HB4.out.trans (hbc.mono HB4.out.size))
                obtain ⟨W5, rfl⟩ : ∃ W : World, W = wc := ⟨_, rfl⟩
                have hl5 : H < W5.heap.size := HW5.out.1
                have HFC := Lib.hid hfc
                clear HC hbc hfc HW4 HB4 hl4
                cases b
                · have hfc := not_f HFC.out
                  clear HFC
                  have HO9 := Lib.hid hfc
                  clear hfc
                  go_upto_region 11 with fail
                  go_cut [93] from 55 to 93 (fun r wx => ∃ b : Bool, r = .bool b ∧ Hid (Below W5.heap.size W5 wx ∧ b = !vR ar ty lo hi))
                  case first =>
                    have d1 : W5.cell? ⟨H, 1, none⟩ = some (.int .i64 ty) := by have := HW5.out.2 1 _ rfl; rwa [HQ1.out] at this
                    have d3 : W5.cell? ⟨H, 3, none⟩ = some (.bool ar) := by have := HW5.out.2 3 _ rfl; rwa [HQ3.out] at this
                    have d4 : W5.cell? ⟨H, 4, none⟩ = some (.int .i64 lo) := by have := HW5.out.2 4 _ rfl; rwa [HQ4.out] at this
                    have d5 : W5.cell? ⟨H, 5, none⟩ = some (.int .i64 hi) := by have := HW5.out.2 5 _ rfl; rwa [HQ5.out] at this
                    cases ar
                    · by_cases h1 : lo = 0
                      · have t1 : (lo != 0) = false := by simp [h1]
                        have Kh1 := Lib.hid h1
                        clear h1
                        by_cases h2 : hi = 0
                        · have t2 : (hi != 0) = false := by simp [h2]
                          have Kh2 := Lib.hid h2
                          clear h2
                          go_wp2
                          go_meet
                          case rel => exact ⟨_, rfl, Lib.hid ⟨Below.refl _ _, by have := Kh1.out; have := Kh2.out; first | (simp [vR]; done) | (simp [vR]; omega) | (simp [vR, *]; done)⟩⟩
                        · have t2 : (hi != 0) = true := by simp [h2]
                          have Kh2 := Lib.hid h2
                          go_wp2
                          go_meet
                          case rel => exact ⟨_, rfl, Lib.hid ⟨Below.refl _ _, by have := Kh1.out; have := Kh2.out; first | (simp [vR]; done) | (simp [vR]; omega) | (simp [vR, *]; done)⟩⟩
                      · have t1 : (lo != 0) = true := by simp [h1]
                        have Kh1 := Lib.hid h1
                        go_wp2
                        go_meet
                        case rel => exact ⟨_, rfl, Lib.hid ⟨Below.refl _ _, by have := Kh1.out; first | (simp [vR]; done) | (simp [vR]; omega) | (simp [vR, *]; done)⟩⟩
                    · by_cases h4 : 2 < ty
                      · go_wp2
                        go_meet
                        case rel => exact ⟨_, rfl, Lib.hid ⟨Below.refl _ _, by first | (simp [vR]; done) | (simp [vR]; omega) | (simp [vR, *]; done)⟩⟩
                      · by_cases h3 : lo < 0
                        · go_wp2
                          go_meet
                          case rel => exact ⟨_, rfl, Lib.hid ⟨Below.refl _ _, by first | (simp [vR]; done) | (simp [vR]; omega) | (simp [vR, *]; done)⟩⟩
                        · by_cases h2 : hi < lo
                          · go_wp2
                            go_meet
                            case rel => exact ⟨_, rfl, Lib.hid ⟨Below.refl _ _, by first | (simp [vR]; done) | (simp [vR]; omega) | (simp [vR, *]; done)⟩⟩
                          · by_cases h1 : 255 < hi
                            · go_wp2
                              go_meet
                              case rel => exact ⟨_, rfl, Lib.hid ⟨Below.refl _ _, by first | (simp [vR]; done) | (simp [vR]; omega) | (simp [vR, *]; done)⟩⟩
                            · have hall : ty ≤ 2 ∧ 0 ≤ lo ∧ lo ≤ hi ∧ hi ≤ 255 := by omega
                              go_wp2
                              go_meet
                              case rel => exact ⟨_, rfl, Lib.hid ⟨Below.refl _ _, by first | (simp [vR]; done) | (simp [vR]; omega) | (simp [vR, *]; done)⟩⟩
                  case rest =>
                    obtain ⟨b, rfl, HC⟩ := hcut
                    obtain ⟨hbc, hfc⟩ := HC.out
                    have HW6 := Lib.hid (varC_below HW5.out hbc)
                    have HB6 := Lib.hid (HB5.out.trans (hbc.mono HB5.out.size))
                    obtain ⟨W6, rfl⟩ : ∃ W : World, W = wc := ⟨_, rfl⟩
                    have hl6 : H < W6.heap.size := HW6.out.1
                    have HFC := Lib.hid hfc
                    clear HC hbc hfc HW5 HB5 hl5
                    cases b
                    · have hfc := not_f HFC.out
                      clear HFC
                      have HO11 := Lib.hid hfc
                      clear hfc
                      go_upto_region 13 with fail
                      go_cut [125] from 94 to 125 (fun r wx => ∃ b : Bool, r = .bool b ∧ Hid (Below W6.heap.size W6 wx ∧ b = !vI ar ty it))
                      case first =>
                        have d1 : W6.cell? ⟨H, 1, none⟩ = some (.int .i64 ty) := by have := HW6.out.2 1 _ rfl; rwa [HQ1.out] at this
                        have d3 : W6.cell? ⟨H, 3, none⟩ = some (.bool ar) := by have := HW6.out.2 3 _ rfl; rwa [HQ3.out] at this
                        have d6 : W6.cell? ⟨H, 6, none⟩ = some (.int .i64 it) := by have := HW6.out.2 6 _ rfl; rwa [HQ6.out] at this
                        cases ar
                        · by_cases h2 : 2 < ty
                          · by_cases h1 : it = 0
                            · have t1 : (it != 0) = false := by simp [h1]
                              have t5 : ¬ it < 0 := by omega
                              have t6 : ¬ 1 < it := by omega
                              have t7 : (it == -9223372036854775808) = false := by simp; omega
                              have Kh1 := Lib.hid h1
                              clear h1
                              by_cases h2 : ty = 2
                              · have u2 : (ty == 2) = true := by simp [h2]
                                have Kh2 := Lib.hid h2
                                clear h2
                                go_wp2
                                go_meet
                                case rel => exact ⟨_, rfl, Lib.hid ⟨Below.refl _ _, by have := Kh1.out; have := Kh2.out; first | (simp [vI]; done) | (simp [vI]; omega) | (simp [vI, *]; done)⟩⟩
                              · have u2 : (ty == 2) = false := by simp [h2]
                                have Kh2 := Lib.hid h2
                                go_wp2
                                go_meet
                                case rel => exact ⟨_, rfl, Lib.hid ⟨Below.refl _ _, by have := Kh1.out; have := Kh2.out; first | (simp [vI]; done) | (simp [vI]; omega) | (simp [vI, *]; done)⟩⟩
                            · have t1 : (it != 0) = true := by simp [h1]
                              have Kh1 := Lib.hid h1
                              go_wp2
                              go_meet
                              case rel => exact ⟨_, rfl, Lib.hid ⟨Below.refl _ _, by have := Kh1.out; first | (simp [vI]; done) | (simp [vI]; omega) | (simp [vI, *]; done)⟩⟩
                          · have Kg2 := Lib.hid h2
                            by_cases h3 : ty = 2
                            · have u2 : (ty == 2) = true := by simp [h3]
                              have Kh3 := Lib.hid h3
                              clear h3
                              by_cases h4 : it < 0
                              · go_wp2
                                go_meet
                                case rel => exact ⟨_, rfl, Lib.hid ⟨Below.refl _ _, by have := Kh3.out; first | (simp [vI]; done) | (simp [vI]; omega) | (simp [vI, *]; done)⟩⟩
                              · by_cases h5 : 1 < it
                                · go_wp2
                                  go_meet
                                  case rel => exact ⟨_, rfl, Lib.hid ⟨Below.refl _ _, by have := Kh3.out; first | (simp [vI]; done) | (simp [vI]; omega) | (simp [vI, *]; done)⟩⟩
                                · by_cases h7 : it = -9223372036854775808
                                  · have t7 : (it == -9223372036854775808) = true := by simp [h7]
                                    have Kh7 := Lib.hid h7
                                    clear h7
                                    go_wp2
                                    go_meet
                                    case rel => exact ⟨_, rfl, Lib.hid ⟨Below.refl _ _, by have := Kh3.out; have := Kh7.out; first | (simp [vI]; done) | (simp [vI]; omega) | (simp [vI, *]; done)⟩⟩
                                  · have t7 : (it == -9223372036854775808) = false := by simp [h7]
                                    have Kh7 := Lib.hid h7
                                    go_wp2
                                    go_meet
                                    case rel => exact ⟨_, rfl, Lib.hid ⟨Below.refl _ _, by have := Kh3.out; have := Kh7.out; first | (simp [vI]; done) | (simp [vI]; omega) | (simp [vI, *]; done)⟩⟩
                            · have u2 : (ty == 2) = false := by simp [h3]
                              have Kh3 := Lib.hid h3
                              by_cases h7 : it = -9223372036854775808
                              · have t7 : (it == -9223372036854775808) = true := by simp [h7]
                                have Kh7 := Lib.hid h7
                                clear h7
                                go_wp2
                                go_meet
                                case rel => exact ⟨_, rfl, Lib.hid ⟨Below.refl _ _, by have := Kh3.out; have := Kh7.out; first | (simp [vI]; done) | (simp [vI]; omega) | (simp [vI, *]; done)⟩⟩
                              · have t7 : (it == -9223372036854775808) = false := by simp [h7]
                                have Kh7 := Lib.hid h7
                                go_wp2
                                go_meet
                                case rel => exact ⟨_, rfl, Lib.hid ⟨Below.refl _ _, by have := Kh3.out; have := Kh7.out; first | (simp [vI]; done) | (simp [vI]; omega) | (simp [vI, *]; done)⟩⟩
                        · by_cases h1 : it = 0
                          · have t1 : (it != 0) = false := by simp [h1]
                            have t5 : ¬ it < 0 := by omega
                            have t6 : ¬ 1 < it := by omega
                            have t7 : (it == -9223372036854775808) = false := by simp; omega
                            have Kh1 := Lib.hid h1
                            clear h1
                            by_cases h2 : ty = 2
                            · have u2 : (ty == 2) = true := by simp [h2]
                              have Kh2 := Lib.hid h2
                              clear h2
                              go_wp2
                              go_meet
                              case rel => exact ⟨_, rfl, Lib.hid ⟨Below.refl _ _, by have := Kh1.out; have := Kh2.out; first | (simp [vI]; done) | (simp [vI]; omega) | (simp [vI, *]; done)⟩⟩
                            · have u2 : (ty == 2) = false := by simp [h2]
                              have Kh2 := Lib.hid h2
                              go_wp2
                              go_meet
                              case rel => exact ⟨_, rfl, Lib.hid ⟨Below.refl _ _, by have := Kh1.out; have := Kh2.out; first | (simp [vI]; done) | (simp [vI]; omega) | (simp [vI, *]; done)⟩⟩
                          · have t1 : (it != 0) = true := by simp [h1]
                            have Kh1 := Lib.hid h1
                            go_wp2
                            go_meet
                            case rel => exact ⟨_, rfl, Lib.hid ⟨Below.refl _ _, by have := Kh1.out; first | (simp [vI]; done) | (simp [vI]; omega) | (simp [vI, *]; done)⟩⟩
                      case rest =>
                        obtain ⟨b, rfl, HC⟩ := hcut
                        obtain ⟨hbc, hfc⟩ := HC.out
                        have HW7 := Lib.hid (varC_below HW6.out hbc)
                        have HB7 := Lib.hid (HB6.out.trans (hbc.mono HB6.out.size))
                        obtain ⟨W7, rfl⟩ : ∃ W : World, W = wc := ⟨_, rfl⟩
                        have hl7 : H < W7.heap.size := HW7.out.1
                        have HFC := Lib.hid hfc
                        clear HC hbc hfc HW6 HB6 hl6
                        cases b
                        · have hfc := not_f HFC.out
                          clear HFC
                          have HO13 := Lib.hid hfc
                          clear hfc
                          have hbe := HB7.out
                          have HVF : Hid (varB v = true) := Lib.hid (vb_yes (by rw [HQ2.out]; exact HO7.out) (by rw [HQ1.out]; exact HO9.out) (by rw [HQ3.out, HQ1.out, HQ4.out, HQ5.out]; exact HO11.out) (by rw [HQ3.out, HQ1.out, HQ6.out]; exact HO13.out))
                          go_wp2
                          go_roundw
                          case rel =>
                            refine ⟨j + 1, by omega, by go_num, Lib.hid (fun q y hq hy => ?_), hbe⟩
                            rcases Nat.lt_succ_iff_lt_or_eq.1 hq with h | rfl
                            · exact HIN.out q y h hy
                            · rw [HZ1.out] at hy
                              cases hy
                              exact HVF.out
                          case measure => simp [intOf]; omega
                        · have hr := HNO.out (fp_V (all_no HZ1.out (vb_I (by rw [HQ3.out, HQ1.out, HQ6.out]; exact not_t HFC.out))))
                          subst hr
                          clear HRES
                          go_wp2
                          go_ret
                          exact ⟨rfl, HB1.out.trans (HB7.out.mono HB1.out.size)⟩
                    · have hr := HNO.out (fp_V (all_no HZ1.out (vb_R (by rw [HQ3.out, HQ1.out, HQ4.out, HQ5.out]; exact not_t HFC.out))))
                      subst hr
                      clear HRES
                      go_wp2
                      go_ret
                      exact ⟨rfl, HB1.out.trans (HB6.out.mono HB1.out.size)⟩
                · have hr := HNO.out (fp_V (all_no HZ1.out (vb_T (by rw [HQ1.out]; exact not_t HFC.out))))
                  subst hr
                  clear HRES
                  go_wp2
                  go_ret
                  exact ⟨rfl, HB1.out.trans (HB5.out.mono HB1.out.size)⟩
            · have hr := HNO.out (fp_V (all_no HZ1.out (vb_A (by rw [HQ2.out]; exact not_t HFC.out))))
              subst hr
              clear HRES
              go_wp2
              go_ret
              exact ⟨rfl, HB1.out.trans (HB4.out.mono HB1.out.size)⟩
        · obtain rfl : j = n := by omega
          have e2 := (hbq.cell (p := ⟨B, 2, none⟩) hl1).trans HE2.out
          have HBQ := Lib.hid (HB1.out.trans (hbq.mono HB1.out.size))
          have HVS : Hid (p.vars.all varB = true) := Lib.hid (all_yes fun q v hq => HIN.out q v (by have := (List.getElem?_eq_some_iff.1 hq).1; have := HN.out; omega) hq)
          obtain ⟨bs, hbs⟩ : ∃ r, fitSsB p.body = r := ⟨_, rfl⟩
          have hr : bs = res := by rw [← HRES.out]; exact (fp_yes HNMP.out (by rw [HN.out]; exact h64) HVS.out hbs).symm
          have HST : Hid (Calls Try.prog 29 #[.slice Ab nb kb] wr fun e w' => e = .returned (.bool bs) ∧ Below wr.heap.size wr w') := Lib.hid (by
            have := fitStmts_is p.body wr Ab kb (HRB.out.below HBQ.out) HSM.out
            rwa [HNB.out, hbs] at this)
          subst hr
          clear hbq HIN HRES hbs
          as_aux_lemma =>
            go_wp2_with fail
            refine HST.out.mono ?_
            rintro e w9 ⟨rfl, hb9⟩
            have HB9 := Lib.hid (HBQ.out.trans (hb9.mono HBQ.out.size))
            clear hb9 e1 e2
            go_wp2
            go_ret
            exact ⟨rfl, HB9.out⟩
    · have hr := HNO.out (by
        have h := not_t HFC.out
        rw [Bool.and_eq_false_iff] at h
        rcases h with h | h
        · exact fp_N h
        · exact fp_L (by rw [HN.out]; have := of_decide_eq_false h; omega))
      subst hr
      clear HRES
      go_wp2
      go_ret
      exact ⟨rfl, HB1.out⟩

end Go.Proofs.Ytcamegfnhbbaeaa
