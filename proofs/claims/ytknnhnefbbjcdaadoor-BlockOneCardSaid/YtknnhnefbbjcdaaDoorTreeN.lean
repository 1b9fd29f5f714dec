/- Could the program have been read? PRINTED by wip/tool/mkfitp.py -/
import Derived.Test.YtknnhnefbbjcdaaDoorTreeK
import Derived.Test.YtknnhnefbbjcdaaDoorM44
import Derived.Test.YtknnhnefbbjcdaaDoorM26
namespace Go.Proofs.YtknnhnefbbjcdaaDoor
open Go.RowKit
set_option linter.unusedVariables false
set_option linter.unusedSimpArgs false
attribute [local go_sem] ite_max ite_min vite_max vite_min ext_cell ext_frozen

set_option maxRecDepth 100000 in
set_option maxHeartbeats 8000000 in
theorem fits_any (p : Prg) (cs : List Value) (w : World) (h : PrgAt w p cs) (hsm : ∀ s ∈ p.body, SmS s) : Calls Tryd.prog 12 #[.agg cs.toArray] w fun e w' => BoolIf (FitP p) e ∧ Below w.heap.size w w' := by
 obtain ⟨Av, kv, Ab, kb, rfl, hv, hbd⟩ := h
 have HRV := Lib.hid hv
 have HRB := Lib.hid hbd
 have HSM := Lib.hid hsm
 have hv1 := hv.1
 have hv2 := hv.2.1
 obtain ⟨n, hn⟩ : ∃ n, p.vars.length = n := ⟨_, rfl⟩
 obtain ⟨nb, hnb⟩ : ∃ n, p.body.length = n := ⟨_, rfl⟩
 rw [hn] at hv1
 rw [hn, hnb]
 have HN := Lib.hid hn
 have HNB := Lib.hid hnb
 clear hv hbd hsm hn hnb
 go_enter Tryd.func12, Tryd.ntmps12
 go_upto_region 1 with (fail)
 refine wp_name fun W0 hW0 => ?_
 obtain ⟨B, hB⟩ : ∃ B, B = w.heap.size := ⟨_, rfl⟩
 have hh : W0.heap[B]? = some (.cells #[.string p.name, .slice Av n kv, .slice Ab nb kb] 25) := by rw [hW0.out, hB]; exact heap_alloc_new _ _
 have hbel : Below w.heap.size w W0 := by rw [hW0.out]; exact belowBy
 have e0 : W0.cell? ⟨B, 0, none⟩ = some (.string p.name) := heap_cell 0 _ hh rfl
 have e1 : W0.cell? ⟨B, 1, none⟩ = some (.slice Av n kv) := heap_cell 1 _ hh rfl
 have e2 : W0.cell? ⟨B, 2, none⟩ = some (.slice Ab nb kb) := heap_cell 2 _ hh rfl
 have hlB : B < W0.heap.size := (Array.getElem?_eq_some_iff.1 hh).1
 have HB0 := Lib.hid hbel
 have HE1 := Lib.hid e1
 have HE2 := Lib.hid e2
 have HLB := Lib.hid hlB
 rw [← hB]
 clear hh hbel hW0 hB e2
 go_cut [14] from 5 to 14 (fun r wx => ∃ b : Bool, r = .bool b ∧ Hid (Below W0.heap.size W0 wx ∧ (b = false → p.name.size ≤ 16 ∧ n ≤ 64)))
 case first =>
  go_wp2_with fail
  refine (name19_any p.name _).mono ?_
  rintro e wn ⟨⟨b, rfl, hnm⟩, hbn⟩
  have HBN := Lib.hid hbn
  have HNN := Lib.hid hnm
  have e1' := (hbn.cell (p := ⟨B, 1, none⟩) hlB).trans e1
  have hln : B < wn.heap.size := Nat.lt_of_lt_of_le hlB hbn.size
  clear hnm hbn e0 e1
  cases b
  ·go_wp2
   go_meet
   case rel => exact ⟨true, rfl, Lib.hid ⟨HBN.out, fun h => by cases h⟩⟩
  ·go_wp2
   go_meet
   case rel => exact ⟨_, rfl, Lib.hid ⟨HBN.out, fun h => ⟨(HNN.out (by trivial)).2, by simp at h; omega⟩⟩⟩
 case rest =>
  obtain ⟨b, rfl, HC⟩ := hcut
  obtain ⟨hbc, hfc⟩ := HC.out
  have HB1 := Lib.hid (HB0.out.trans (hbc.mono HB0.out.size))
  have e1' := (hbc.cell (p := ⟨B, 1, none⟩) hlB).trans e1
  have e2' := (hbc.cell (p := ⟨B, 2, none⟩) hlB).trans HE2.out
  have hl1 : B < wc.heap.size := Nat.lt_of_lt_of_le hlB hbc.size
  have HFC := Lib.hid hfc
  have HE1 := Lib.hid e1'
  have HE2 := Lib.hid e2'
  obtain ⟨W1, rfl⟩ : ∃ W : World, W = wc := ⟨_, rfl⟩
  clear HC hbc hfc e0 e1 e1' e2' hlB
  cases b
  ·have hfc := HFC.out (by trivial)
   clear HFC
   have HNMP := Lib.hid hfc.1
   have h64 := hfc.2
   clear hfc
   go_wp2_with fail
   go_loopw [3] (fun vi wr => ∃ (j : Nat), j ≤ n ∧ vi = .int .i64 j ∧ Hid (∀ q z, q < j → p.vars[q]? = some z → VarFit z) ∧ Below W1.heap.size W1 wr) (fun vi _ => n - (intOf vi).toNat)
   case atStart => exact ⟨0, by omega, rfl, Lib.hid (fun q _ hq => by omega), Below.refl _ _⟩
   case round =>
    obtain ⟨j, hj, rfl, HIN, hbq⟩ := hrel
    have e1 := (hbq.cell (p := ⟨B, 1, none⟩) hl1).trans HE1.out
    have hlr : B < wr.heap.size := Nat.lt_of_lt_of_le hl1 hbq.size
    by_cases hlt : j < n
    ·have hj0 : (0 : Int) ≤ (j : Int) ∧ (j : Int) < (n : Int) := by omega
     obtain ⟨bb, off, v, hA1, hbl, hz1, hrg⟩ := RowV.at8 (HRV.out.below (HB1.out.trans (hbq.mono HB1.out.size))) (i := j) (by rw [HN.out]; exact hlt)
     rw [hA1] at e1
     have HZ1 := Lib.hid hz1
     have HRG := Lib.hid hrg
     have HBQ := Lib.hid hbq
     clear hz1 hrg hA1 hbq
     go_upto_region 7 with (first
      | refine wpList_load_mid rfl 45 _ rfl bb (off + j * 8) rfl v.cells _ HRG.out Tryd.underlying45 rfl var_size8 ?_
      | refine wpList_store_new rfl 45 _ _ rfl wr _ v.cells.toArray rfl rfl rfl var_size8 rfl (var_one8 v) ?_)
     refine wp_name fun W3 hW3 => ?_
     obtain ⟨H, hH⟩ : ∃ H, H = wr.heap.size := ⟨_, rfl⟩
     rw [← hH]
     simp only [Act.put]
     have hB3 : Below wr.heap.size wr W3 := by rw [hW3.out]; exact belowBy
     have hh : W3.heap[H]? = some (.cells v.cells.toArray 45) := by rw [hW3.out, hH]; exact heap_alloc_new _ _
     have HW3 : Hid (VarC W3 H v) := Lib.hid ⟨(Array.getElem?_eq_some_iff.1 hh).1, fun j u hu => heap_cell j _ hh (by rw [List.getElem?_toArray]; exact hu)⟩
     have HB3 := Lib.hid (HBQ.out.trans (hB3.mono HBQ.out.size))
     have hl3 : H < W3.heap.size := HW3.out.1
     clear hW3 hB3 hh hH e1 hlr HRG HBQ
     obtain ⟨ty, hq1⟩ : ∃ x, v.type = x := ⟨_, rfl⟩
     obtain ⟨sc, hq2⟩ : ∃ x, v.sect = x := ⟨_, rfl⟩
     obtain ⟨ar, hq3⟩ : ∃ x, v.arr = x := ⟨_, rfl⟩
     obtain ⟨lo, hq4⟩ : ∃ x, v.lo = x := ⟨_, rfl⟩
     obtain ⟨hi, hq5⟩ : ∃ x, v.hi = x := ⟨_, rfl⟩
     obtain ⟨it, hq6⟩ : ∃ x, v.init = x := ⟨_, rfl⟩
     have HQ1 := Lib.hid hq1
     have HQ2 := Lib.hid hq2
     have HQ3 := Lib.hid hq3
     have HQ4 := Lib.hid hq4
     have HQ5 := Lib.hid hq5
     have HQ6 := Lib.hid hq6
     clear hq1 hq2 hq3 hq4 hq5 hq6
     go_cut [40] from 27 to 40 (fun r wx => ∃ b : Bool, r = .bool b ∧ Hid (Below W3.heap.size W3 wx ∧ (b = false → v.name.size ≤ 16 ∧ 0 ≤ sc ∧ sc ≤ 2)))
     case first =>
      have d0 : W3.cell? ⟨H, 0, none⟩ = some (.string v.name) := HW3.out.2 0 _ rfl
      have d2 : W3.cell? ⟨H, 2, none⟩ = some (.int .i64 sc) := by have := HW3.out.2 2 _ rfl; rwa [HQ2.out] at this
      go_wp2_with fail
      refine (name19_any v.name _).mono ?_
      rintro e wn ⟨⟨b, rfl, hnm⟩, hbn⟩
      have HBN := Lib.hid hbn
      have HNN := Lib.hid hnm
      have d2' := (hbn.cell (p := ⟨H, 2, none⟩) hl3).trans d2
      have hln : H < wn.heap.size := Nat.lt_of_lt_of_le hl3 hbn.size
      clear hnm hbn d0 d2
      cases b
      ·go_wp2
       go_meet
       case rel => exact ⟨true, rfl, Lib.hid ⟨HBN.out, fun h => by cases h⟩⟩
      ·by_cases h0 : sc < 0
       ·go_wp2
        go_meet
        case rel => exact ⟨true, rfl, Lib.hid ⟨HBN.out, fun h => by cases h⟩⟩
       ·go_wp2
        go_meet
        case rel => exact ⟨_, rfl, Lib.hid ⟨HBN.out, fun h => ⟨(HNN.out (by trivial)).2, by omega, by simp at h; omega⟩⟩⟩
     case rest =>
      obtain ⟨b, rfl, HC⟩ := hcut
      obtain ⟨hbc, hfc⟩ := HC.out
      have HW4 := Lib.hid (varC_below HW3.out hbc)
      have HB4 := Lib.hid (HB3.out.trans (hbc.mono HB3.out.size))
      obtain ⟨W4, rfl⟩ : ∃ W : World, W = wc := ⟨_, rfl⟩
      have hl4 : H < W4.heap.size := HW4.out.1
      have HFC := Lib.hid hfc
      clear HC hbc hfc HW3 HB3 hl3
      cases b
      ·have hfc := HFC.out (by trivial)
       clear HFC
       have HF7 := Lib.hid hfc
       clear hfc
       go_upto_region 9 with fail
       go_cut [54] from 41 to 54 (fun r wx => ∃ b : Bool, r = .bool b ∧ Hid (Below W4.heap.size W4 wx ∧ (b = false → True)))
       case first =>
        have d1 : W4.cell? ⟨H, 1, none⟩ = some (.int .i64 ty) := by have := HW4.out.2 1 _ rfl; rwa [HQ1.out] at this
        by_cases h1 : ty = 1
        ·have t1 : (ty != 1) = false := by simp [h1]
         clear h1
         go_wp2
         go_meet
         case rel => exact ⟨_, rfl, Lib.hid ⟨Below.refl _ _, fun _ => trivial⟩⟩
        ·have t1 : (ty != 1) = true := by simp [h1]
         by_cases h2 : ty = 2
         ·have t2 : (ty != 2) = false := by simp [h2]
          clear h2 h1
          go_wp2
          go_meet
          case rel => exact ⟨_, rfl, Lib.hid ⟨Below.refl _ _, fun _ => trivial⟩⟩
         ·have t2 : (ty != 2) = true := by simp [h2]
          go_wp2_with fail
          refine (rname_any ty _).mono ?_
          rintro e wn ⟨rfl, hbn⟩
          have HBN := Lib.hid hbn
          clear hbn d1
          go_wp2
          go_meet
          case rel => exact ⟨_, rfl, Lib.hid ⟨HBN.out, fun _ => trivial⟩⟩
       case rest =>
        obtain ⟨b, rfl, HC⟩ := hcut
        obtain ⟨hbc, hfc⟩ := HC.out
        have HW5 := Lib.hid (varC_below HW4.out hbc)
        have HB5 := Lib.hid (HB4.out.trans (hbc.mono HB4.out.size))
        obtain ⟨W5, rfl⟩ : ∃ W : World, W = wc := ⟨_, rfl⟩
        have hl5 : H < W5.heap.size := HW5.out.1
        have HFC := Lib.hid hfc
        clear HC hbc hfc HW4 HB4 hl4
        cases b
        ·have hfc := HFC.out (by trivial)
         clear HFC
         clear hfc
         go_upto_region 11 with fail
         go_cut [93] from 55 to 93 (fun r wx => ∃ b : Bool, r = .bool b ∧ Hid (Below W5.heap.size W5 wx ∧ (b = false → (ar = true → ty ≤ 2 ∧ 0 ≤ lo ∧ lo ≤ hi ∧ hi ≤ 255))))
         case first =>
          have d1 : W5.cell? ⟨H, 1, none⟩ = some (.int .i64 ty) := by have := HW5.out.2 1 _ rfl; rwa [HQ1.out] at this
          have d3 : W5.cell? ⟨H, 3, none⟩ = some (.bool ar) := by have := HW5.out.2 3 _ rfl; rwa [HQ3.out] at this
          have d4 : W5.cell? ⟨H, 4, none⟩ = some (.int .i64 lo) := by have := HW5.out.2 4 _ rfl; rwa [HQ4.out] at this
          have d5 : W5.cell? ⟨H, 5, none⟩ = some (.int .i64 hi) := by have := HW5.out.2 5 _ rfl; rwa [HQ5.out] at this
          cases ar
          ·by_cases h1 : lo = 0
           ·have t1 : (lo != 0) = false := by simp [h1]
            clear h1
            by_cases h2 : hi = 0
            ·have t2 : (hi != 0) = false := by simp [h2]
             clear h2
             go_wp2
             go_meet
             case rel => exact ⟨_, rfl, Lib.hid ⟨Below.refl _ _, fun _ h => by cases h⟩⟩
            ·have t2 : (hi != 0) = true := by simp [h2]
             go_wp2
             go_meet
             case rel => exact ⟨_, rfl, Lib.hid ⟨Below.refl _ _, fun _ h => by cases h⟩⟩
           ·have t1 : (lo != 0) = true := by simp [h1]
            go_wp2
            go_meet
            case rel => exact ⟨_, rfl, Lib.hid ⟨Below.refl _ _, fun _ h => by cases h⟩⟩
          ·by_cases h4 : 2 < ty
           ·go_wp2
            go_meet
            case rel => exact ⟨_, rfl, Lib.hid ⟨Below.refl _ _, fun h => by cases h⟩⟩
           ·by_cases h3 : lo < 0
            ·go_wp2
             go_meet
             case rel => exact ⟨_, rfl, Lib.hid ⟨Below.refl _ _, fun h => by cases h⟩⟩
            ·by_cases h2 : hi < lo
             ·go_wp2
              go_meet
              case rel => exact ⟨_, rfl, Lib.hid ⟨Below.refl _ _, fun h => by cases h⟩⟩
             ·by_cases h1 : 255 < hi
              ·go_wp2
               go_meet
               case rel => exact ⟨_, rfl, Lib.hid ⟨Below.refl _ _, fun h => by cases h⟩⟩
              ·have hall : ty ≤ 2 ∧ 0 ≤ lo ∧ lo ≤ hi ∧ hi ≤ 255 := by omega
               go_wp2
               go_meet
               case rel => exact ⟨_, rfl, Lib.hid ⟨Below.refl _ _, fun _ _ => hall⟩⟩
         case rest =>
          obtain ⟨b, rfl, HC⟩ := hcut
          obtain ⟨hbc, hfc⟩ := HC.out
          have HW6 := Lib.hid (varC_below HW5.out hbc)
          have HB6 := Lib.hid (HB5.out.trans (hbc.mono HB5.out.size))
          obtain ⟨W6, rfl⟩ : ∃ W : World, W = wc := ⟨_, rfl⟩
          have hl6 : H < W6.heap.size := HW6.out.1
          have HFC := Lib.hid hfc
          clear HC hbc hfc HW5 HB5 hl5
          cases b
          ·have hfc := HFC.out (by trivial)
           clear HFC
           have HFA := Lib.hid hfc
           clear hfc
           go_upto_region 13 with fail
           go_cut [125] from 94 to 125 (fun r wx => ∃ b : Bool, r = .bool b ∧ Hid (Below W6.heap.size W6 wx ∧ (b = false → True)))
           case first =>
            have d1 : W6.cell? ⟨H, 1, none⟩ = some (.int .i64 ty) := by have := HW6.out.2 1 _ rfl; rwa [HQ1.out] at this
            have d3 : W6.cell? ⟨H, 3, none⟩ = some (.bool ar) := by have := HW6.out.2 3 _ rfl; rwa [HQ3.out] at this
            have d6 : W6.cell? ⟨H, 6, none⟩ = some (.int .i64 it) := by have := HW6.out.2 6 _ rfl; rwa [HQ6.out] at this
            cases ar
            ·by_cases h2 : 2 < ty
             ·by_cases h1 : it = 0
              ·have t1 : (it != 0) = false := by simp [h1]
               have t5 : ¬ it < 0 := by omega
               have t6 : ¬ 1 < it := by omega
               have t7 : (it == -9223372036854775808) = false := by simp; omega
               clear h1
               cases h2 : (ty == 2)
               ·go_wp2
                go_meet
                case rel => exact ⟨_, rfl, Lib.hid ⟨Below.refl _ _, fun _ => trivial⟩⟩
               ·go_wp2
                go_meet
                case rel => exact ⟨_, rfl, Lib.hid ⟨Below.refl _ _, fun _ => trivial⟩⟩
              ·have t1 : (it != 0) = true := by simp [h1]
               go_wp2
               go_meet
               case rel => exact ⟨_, rfl, Lib.hid ⟨Below.refl _ _, fun _ => trivial⟩⟩
             ·cases h3 : (ty == 2)
              ·cases h7 : (it == -9223372036854775808)
               ·go_wp2
                go_meet
                case rel => exact ⟨_, rfl, Lib.hid ⟨Below.refl _ _, fun _ => trivial⟩⟩
               ·go_wp2
                go_meet
                case rel => exact ⟨_, rfl, Lib.hid ⟨Below.refl _ _, fun _ => trivial⟩⟩
              ·by_cases h4 : it < 0
               ·go_wp2
                go_meet
                case rel => exact ⟨_, rfl, Lib.hid ⟨Below.refl _ _, fun _ => trivial⟩⟩
               ·by_cases h5 : 1 < it
                ·go_wp2
                 go_meet
                 case rel => exact ⟨_, rfl, Lib.hid ⟨Below.refl _ _, fun _ => trivial⟩⟩
                ·cases h7 : (it == -9223372036854775808)
                 ·go_wp2
                  go_meet
                  case rel => exact ⟨_, rfl, Lib.hid ⟨Below.refl _ _, fun _ => trivial⟩⟩
                 ·go_wp2
                  go_meet
                  case rel => exact ⟨_, rfl, Lib.hid ⟨Below.refl _ _, fun _ => trivial⟩⟩
            ·by_cases h1 : it = 0
             ·have t1 : (it != 0) = false := by simp [h1]
              have t5 : ¬ it < 0 := by omega
              have t6 : ¬ 1 < it := by omega
              have t7 : (it == -9223372036854775808) = false := by simp; omega
              clear h1
              cases h2 : (ty == 2)
              ·go_wp2
               go_meet
               case rel => exact ⟨_, rfl, Lib.hid ⟨Below.refl _ _, fun _ => trivial⟩⟩
              ·go_wp2
               go_meet
               case rel => exact ⟨_, rfl, Lib.hid ⟨Below.refl _ _, fun _ => trivial⟩⟩
             ·have t1 : (it != 0) = true := by simp [h1]
              go_wp2
              go_meet
              case rel => exact ⟨_, rfl, Lib.hid ⟨Below.refl _ _, fun _ => trivial⟩⟩
           case rest =>
            obtain ⟨b, rfl, HC⟩ := hcut
            obtain ⟨hbc, hfc⟩ := HC.out
            have HW7 := Lib.hid (varC_below HW6.out hbc)
            have HB7 := Lib.hid (HB6.out.trans (hbc.mono HB6.out.size))
            obtain ⟨W7, rfl⟩ : ∃ W : World, W = wc := ⟨_, rfl⟩
            have hl7 : H < W7.heap.size := HW7.out.1
            have HFC := Lib.hid hfc
            clear HC hbc hfc HW6 HB6 hl6
            cases b
            ·have hfc := HFC.out (by trivial)
             clear HFC
             clear hfc
             have hbe := HB7.out
             have HVF : Hid (VarFit v) := Lib.hid ⟨HF7.out.1, by rw [HQ2.out]; exact HF7.out.2.1, by rw [HQ2.out]; exact HF7.out.2.2, fun h => by have h9 := HFA.out (by rw [← HQ3.out]; exact h); rw [HQ1.out, HQ4.out, HQ5.out]; exact h9⟩
             go_wp2
             go_roundw
             case rel =>
              refine ⟨j + 1, by omega, by go_num, Lib.hid (fun q y hq hy => ?_), hbe⟩
              rcases Nat.lt_succ_iff_lt_or_eq.1 hq with h | rfl
              ·exact HIN.out q y h hy
              ·rw [HZ1.out] at hy
               cases hy
               exact HVF.out
             case measure => simp [intOf]; omega
            ·go_wp2
             go_ret
             exact ⟨⟨_, rfl, fun h => by cases h⟩, HB1.out.trans (HB7.out.mono HB1.out.size)⟩
          ·go_wp2
           go_ret
           exact ⟨⟨_, rfl, fun h => by cases h⟩, HB1.out.trans (HB6.out.mono HB1.out.size)⟩
        ·go_wp2
         go_ret
         exact ⟨⟨_, rfl, fun h => by cases h⟩, HB1.out.trans (HB5.out.mono HB1.out.size)⟩
      ·go_wp2
       go_ret
       exact ⟨⟨_, rfl, fun h => by cases h⟩, HB1.out.trans (HB4.out.mono HB1.out.size)⟩
    ·obtain rfl : j = n := by omega
     have e2 := (hbq.cell (p := ⟨B, 2, none⟩) hl1).trans HE2.out
     have HBQ := Lib.hid (HB1.out.trans (hbq.mono HB1.out.size))
     have HVS : Hid (∀ v ∈ p.vars, VarFit v) := Lib.hid (fun v hv => by
      obtain ⟨q, hq⟩ := List.getElem?_of_mem hv
      exact HIN.out q v (by have := (List.getElem?_eq_some_iff.1 hq).1; have := HN.out; omega) hq)
     have HST : Hid (Calls Tryd.prog 31 #[.slice Ab nb kb] wr fun e w' => BoolIf (∀ s ∈ p.body, FitS s) e ∧ Below wr.heap.size wr w') := Lib.hid (by
      have := fitStmts_any _ p.body (Nat.lt_succ_self _) wr Ab kb (HRB.out.below HBQ.out) HSM.out
      rwa [HNB.out] at this)
     clear hbq HIN
     as_aux_lemma =>
      go_wp2_with fail
      refine HST.out.mono ?_
      rintro e w9 ⟨⟨b, rfl, hfit⟩, hb9⟩
      have HF := Lib.hid hfit
      have HB9 := Lib.hid (HBQ.out.trans (hb9.mono HBQ.out.size))
      clear hfit hb9 e1 e2
      go_wp2
      go_ret
      exact ⟨⟨_, rfl, fun h => ⟨HNMP.out, by rw [HN.out]; exact h64, HVS.out, HF.out h⟩⟩, HB9.out⟩
  ·go_wp2
   go_ret
   exact ⟨⟨_, rfl, fun h => by cases h⟩, HB1.out⟩

end Go.Proofs.YtknnhnefbbjcdaaDoor
