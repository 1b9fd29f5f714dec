/- Do statements fit? -/
import Derived.Test.YtahjijdadifkaaaDoorM19
namespace Go.Proofs.YtahjijdadifkaaaDoor
open Go.RowKit
set_option linter.unusedVariables false
set_option linter.unusedSimpArgs false
attribute [local go_sem] ite_max ite_min vite_max vite_min ext_cell ext_frozen

set_option maxRecDepth 100000 in
set_option maxHeartbeats 8000000 in
theorem fitStmts_any : ∀ (k : Nat) (xs : List Stm), SizeOf.sizeOf xs < k → ∀ (w : World) (A : Option Addr) (cap : Nat), RowT w A xs cap → (∀ s ∈ xs, SmS s) → Calls Tryd.prog 16 #[.slice A xs.length cap] w fun e w' => BoolIf (∀ s ∈ xs, FitS s) e ∧ Below w.heap.size w w' := by
 intro k
 induction k with
 | zero => intro xs h; omega
 | succ k ih =>
  intro xs hsz w A cap hrow hsm
  have HIH := Lib.hid ih
  have HSZ := Lib.hid hsz
  have HR := Lib.hid hrow
  have HSM := Lib.hid hsm
  have hl := hrow.1
  have hc := hrow.2.1
  obtain ⟨n, hn⟩ : ∃ n, xs.length = n := ⟨_, rfl⟩
  rw [hn] at hl ⊢
  have HN := Lib.hid hn
  clear ih hrow hn hsm hsz
  go_enter Tryd.func16, Tryd.ntmps16
  go_wp2_with fail
  go_loopw [3] (fun vi wr => ∃ (i : Nat), i ≤ n ∧ vi = .int .i64 i ∧ Hid (∀ j s, j < i → xs[j]? = some s → FitS s) ∧ Below w.heap.size w wr) (fun vi _ => n - (intOf vi).toNat)
  case atStart => exact ⟨0, by omega, rfl, Lib.hid (fun j x hj => by omega), Below.refl _ _⟩
  case round =>
   obtain ⟨i, hi, rfl, HFI, hbr⟩ := hrel
   by_cases hlt : i < n
   ·obtain ⟨bb, off, s, m, rfl, hbl, hx, hsv⟩ := RowT.at (HR.out.below hbr) (i := i) (by rw [HN.out]; exact hlt)
    have hi0 : (0 : Int) ≤ (i : Int) ∧ (i : Int) < (n : Int) := by omega
    have HX := Lib.hid hx
    have HS := Lib.hid hsv
    have HSS := Lib.hid (HSM.out s (List.mem_of_getElem? hx))
    clear hsv hx
    go_upto_region 5 with (first
     | refine wpList_load_mid rfl 63 _ rfl bb (off + i * 19) rfl (StmC s m) _ HS.out.cell Tryd.underlying63 rfl stmt_size ?_
     | refine wpList_store_new rfl 63 _ _ rfl wr _ (StmC s m).toArray rfl rfl rfl stmt_size rfl (stmC_one s m) ?_)
    refine wp_name fun W hW => ?_
    obtain ⟨H, hH⟩ : ∃ H, H = wr.heap.size := ⟨_, rfl⟩
    rw [← hH]
    have hB : Below wr.heap.size wr W := by rw [hW.out]; exact belowBy
    have hh : W.heap[H]? = some (.cells (StmC s m).toArray 63) := by rw [hW.out, hH]; exact heap_alloc_new _ _
    have HV := Lib.hid (HS.out.copy hB hh)
    have HB := Lib.hid (hbr.trans (hB.mono hbr.size))
    have hHl : H < W.heap.size := HV.out.lt
    have hWs := HB.out.size
    clear hW hB hh hH hbr HS
    obtain ⟨op, hop⟩ : ∃ op, s.op = op := ⟨_, rfl⟩
    have HOP := Lib.hid hop
    have d0 : W.cell? ⟨H, 0, none⟩ = some (.int .i64 op) := by rw [← hop]; exact HV.out.at0 0 _ rfl
    obtain ⟨nm, hnm⟩ : ∃ b, shNamed op = b := ⟨_, rfl⟩
    obtain ⟨tt, htt⟩ : ∃ b, shTo op = b := ⟨_, rfl⟩
    obtain ⟨vv, hvv⟩ : ∃ b, shVal op = b := ⟨_, rfl⟩
    have HSH : Hid (∀ W, Calls Tryd.prog 32 #[.int .i64 op] W fun e w' => e = .returned (.tuple #[.bool nm, .bool tt, .bool vv]) ∧ W = w') := Lib.hid (fun W => by have := shape_any op W; rwa [hnm, htt, hvv] at this)
    have HNMQ := Lib.hid hnm
    have HTTQ := Lib.hid htt
    have HVVQ := Lib.hid hvv
    clear hop hnm htt hvv
    go_upto_region 6 with ((go_at_call 32; refine (HSH.out _).mono ?_; rintro e w' ⟨rfl, rfl⟩))
    clear HSH
    go_cut [59] from 34 to 59 (fun r wx => ∃ b : Bool, r = .bool b ∧ Hid (Below W.heap.size W wx ∧ (b = false → 1 ≤ op ∧ op ≤ 9 ∧ s.name.size ≤ 16)))
    case first =>
     have d1 : W.cell? ⟨H, 1, none⟩ = some (.string s.name) := HV.out.at0 1 _ rfl
     by_cases hlo : op < 1
     ·go_wp2
      go_meet
      case rel => exact ⟨true, rfl, Lib.hid ⟨Below.refl _ _, fun h => by cases h⟩⟩
     by_cases hhi : 9 < op
     ·go_wp2
      go_meet
      case rel => exact ⟨true, rfl, Lib.hid ⟨Below.refl _ _, fun h => by cases h⟩⟩
     have h19 : 1 ≤ op ∧ op ≤ 9 := by omega
     cases nm
     ·by_cases hq : s.name.toList = []
      ·have HQ := Lib.hid (empty_le hq)
       go_wp2
       go_meet
       case rel => exact ⟨false, rfl, Lib.hid ⟨Below.refl _ _, fun _ => ⟨h19.1, h19.2, HQ.out⟩⟩⟩
      ·go_wp2
       go_meet
       case rel => exact ⟨_, rfl, Lib.hid ⟨Below.refl _ _, fun h => absurd h (by simp [hq])⟩⟩
     ·go_wp2_with fail
      refine (name19_any s.name _).mono ?_
      rintro e wn ⟨⟨b, rfl, hnm⟩, hbn⟩
      have HBN := Lib.hid hbn
      have HNN := Lib.hid hnm
      clear hnm hbn d0 d1
      cases b
      ·go_wp2
       go_meet
       case rel => exact ⟨true, rfl, Lib.hid ⟨HBN.out, fun h => by cases h⟩⟩
      ·go_wp2
       go_meet
       case rel => exact ⟨false, rfl, Lib.hid ⟨HBN.out, fun _ => ⟨h19.1, h19.2, (HNN.out (by trivial)).2⟩⟩⟩
    case rest =>
     obtain ⟨b, rfl, HC⟩ := hcut
     obtain ⟨hbc, hfc⟩ := HC.out
     have HV1 := Lib.hid (HV.out.below hbc)
     have HB1 := Lib.hid (HB.out.trans (hbc.mono HB.out.size))
     have hl1 : H < wc.heap.size := HV1.out.lt
     have hs1 := HB1.out.size
     obtain ⟨W1, rfl⟩ : ∃ W1 : World, W1 = wc := ⟨_, rfl⟩
     have HFC := Lib.hid hfc
     clear HC hbc hfc HV HB hHl hWs d0
     cases b
     ·have hfc := HFC.out (by trivial)
      clear HFC
      obtain ⟨ho1, ho2, hq1⟩ := hfc
      have HNSZ := Lib.hid hq1
      clear hq1
      go_upto_region 8 with fail
      go_cut [89] from 60 to 89 (fun r wx => ∃ b : Bool, r = .bool b ∧ Hid (Below W1.heap.size W1 wx ∧ (b = false → (tt = true → (s.dst.op = 3 ∨ s.dst.op = 4) ∧ FitE s.dst) ∧ (tt = false → NoneX s.dst))))
      case first =>
       have d2 : W1.cell? ⟨H, 2, none⟩ = some (.int .i64 s.dst.op) := HV1.out.at0 2 _ rfl
       have d3 : W1.cell? ⟨H, 3, none⟩ = some (.int .i64 s.dst.n) := HV1.out.at0 3 _ rfl
       have d4 : W1.cell? ⟨H, 4, none⟩ = some (.string s.dst.name) := HV1.out.at0 4 _ rfl
       have d5 : W1.cell? ⟨H, 5, none⟩ = some (.string s.dst.field) := HV1.out.at0 5 _ rfl
       have d6 : W1.cell? ⟨H, 6, none⟩ = some (.slice m.ta s.dst.sub.length m.tk) := HV1.out.at0 6 _ rfl
       have d7 : W1.cell? ⟨H, 7, none⟩ = some (.int .i64 s.dst.line) := HV1.out.at0 7 _ rfl
       cases tt
       ·go_wp2_with fail
        refine (none_fit s.dst m.ta m.tk _ HSS.out.parts.1 HV1.out.dst.len80).mono ?_
        rintro e wn ⟨⟨b, rfl, hnm⟩, hbn⟩
        have HBN := Lib.hid hbn
        have HNN := Lib.hid hnm
        clear hnm hbn d2 d3 d4 d5 d6 d7
        cases b
        ·go_wp2
         go_meet
         case rel => exact ⟨true, rfl, Lib.hid ⟨HBN.out, fun h => by cases h⟩⟩
        ·go_wp2
         go_meet
         case rel => exact ⟨false, rfl, Lib.hid ⟨HBN.out, fun _ => ⟨fun h => by (cases h), fun _ => HNN.out (by trivial)⟩⟩⟩
       ·by_cases h34 : s.dst.op = 3 ∨ s.dst.op = 4
        ·have H34 := Lib.hid h34
         rcases h34 with h3 | h4
         ·have t3 : (s.dst.op != 3) = false := by simp [h3]
          clear h3
          go_wp2_with fail
          refine (fitExprs_any _ [s.dst] (Nat.lt_succ_self _) _ _ _ ?r1).mono ?_
          case r1 => exact rowE_one (w := W1.alloc (.cells (ExC s.dst m.ta m.tk).toArray 28)) (heap_alloc_new _ _) (HV1.out.dst.keep (by exact belowBy))
          rintro e wk ⟨⟨b, rfl, hnm⟩, hbn⟩
          have hbn' : Below W1.heap.size W1 wk := by exact belowBy
          have HBN := Lib.hid hbn'
          have HNN := Lib.hid hnm
          clear hnm hbn hbn' d2 d3 d4 d5 d6 d7
          cases b
          ·go_wp2
           go_meet
           case rel => exact ⟨true, rfl, Lib.hid ⟨HBN.out, fun h => by cases h⟩⟩
          ·go_wp2
           go_meet
           case rel => exact ⟨false, rfl, Lib.hid ⟨HBN.out, fun _ => ⟨fun _ => ⟨H34.out, HNN.out (by trivial) _ (List.mem_singleton.2 rfl)⟩, fun h => by (cases h)⟩⟩⟩
         ·have t3 : (s.dst.op != 3) = true := by simp [h4]
          have t4 : (s.dst.op != 4) = false := by simp [h4]
          clear h4
          go_wp2_with fail
          refine (fitExprs_any _ [s.dst] (Nat.lt_succ_self _) _ _ _ ?r1).mono ?_
          case r1 => exact rowE_one (w := W1.alloc (.cells (ExC s.dst m.ta m.tk).toArray 28)) (heap_alloc_new _ _) (HV1.out.dst.keep (by exact belowBy))
          rintro e wk ⟨⟨b, rfl, hnm⟩, hbn⟩
          have hbn' : Below W1.heap.size W1 wk := by exact belowBy
          have HBN := Lib.hid hbn'
          have HNN := Lib.hid hnm
          clear hnm hbn hbn' d2 d3 d4 d5 d6 d7
          cases b
          ·go_wp2
           go_meet
           case rel => exact ⟨true, rfl, Lib.hid ⟨HBN.out, fun h => by cases h⟩⟩
          ·go_wp2
           go_meet
           case rel => exact ⟨false, rfl, Lib.hid ⟨HBN.out, fun _ => ⟨fun _ => ⟨H34.out, HNN.out (by trivial) _ (List.mem_singleton.2 rfl)⟩, fun h => by (cases h)⟩⟩⟩
        ·have t3 : (s.dst.op != 3) = true := by simp; omega
         have t4 : (s.dst.op != 4) = true := by simp; omega
         go_wp2
         go_meet
         case rel => exact ⟨true, rfl, Lib.hid ⟨Below.refl _ _, fun h => by cases h⟩⟩
      case rest =>
       obtain ⟨b, rfl, HC⟩ := hcut
       obtain ⟨hbc, hfc⟩ := HC.out
       have HV2 := Lib.hid (HV1.out.below hbc)
       have HB2 := Lib.hid (HB1.out.trans (hbc.mono HB1.out.size))
       have hl2 : H < wc.heap.size := HV2.out.lt
       have hs2 := HB2.out.size
       obtain ⟨W2, rfl⟩ : ∃ W2 : World, W2 = wc := ⟨_, rfl⟩
       have HFC := Lib.hid hfc
       clear HC hbc hfc HV1 HB1 hl1 hs1
       cases b
       ·have hfc := HFC.out (by trivial)
        clear HFC
        obtain ⟨hq1, hq2⟩ := hfc
        have HTY := Lib.hid hq1
        have HTN := Lib.hid hq2
        clear hq1 hq2
        go_upto_region 10 with fail
        go_cut [118] from 90 to 118 (fun r wx => ∃ b : Bool, r = .bool b ∧ Hid (Below W2.heap.size W2 wx ∧ (b = false → (vv = true → FitE s.src) ∧ (vv = false → NoneX s.src) ∧ ∀ x ∈ s.conds, FitE x)))
        case first =>
         have d8 : W2.cell? ⟨H, 8, none⟩ = some (.int .i64 s.src.op) := HV2.out.at0 8 _ rfl
         have d9 : W2.cell? ⟨H, 9, none⟩ = some (.int .i64 s.src.n) := HV2.out.at0 9 _ rfl
         have d10 : W2.cell? ⟨H, 10, none⟩ = some (.string s.src.name) := HV2.out.at0 10 _ rfl
         have d11 : W2.cell? ⟨H, 11, none⟩ = some (.string s.src.field) := HV2.out.at0 11 _ rfl
         have d12 : W2.cell? ⟨H, 12, none⟩ = some (.slice m.va s.src.sub.length m.vk) := HV2.out.at0 12 _ rfl
         have d13 : W2.cell? ⟨H, 13, none⟩ = some (.int .i64 s.src.line) := HV2.out.at0 13 _ rfl
         cases vv
         ·go_wp2_with fail
          refine (none_fit s.src m.va m.vk _ HSS.out.parts.2.1 HV2.out.src.len80).mono ?_
          rintro e wn ⟨⟨b, rfl, hnm⟩, hbn⟩
          have HBN := Lib.hid hbn
          have HNN := Lib.hid hnm
          have HVN := Lib.hid (HV2.out.below hbn)
          have hln : H < wn.heap.size := HVN.out.lt
          clear hnm hbn d8 d9 d10 d11 d12 d13
          have d14 : wn.cell? ⟨H, 14, none⟩ = some (.slice m.ca s.conds.length m.ck) := HVN.out.at0 14 _ rfl
          cases b
          ·go_wp2
           go_meet
           case rel => exact ⟨true, rfl, Lib.hid ⟨HBN.out, fun h => by cases h⟩⟩
          ·go_wp2_with fail
           refine (fitExprs_any _ s.conds (Nat.lt_succ_self _) _ _ _ HVN.out.conds).mono ?_
           rintro e wq ⟨⟨b, rfl, hnm⟩, hbn⟩
           have hbn' : Below W2.heap.size W2 wq := HBN.out.trans (hbn.mono HBN.out.size)
           have HBQ := Lib.hid hbn'
           have HNQ := Lib.hid hnm
           clear hnm hbn hbn' d14
           cases b
           ·go_wp2
            go_meet
            case rel => exact ⟨true, rfl, Lib.hid ⟨HBQ.out, fun h => by cases h⟩⟩
           ·go_wp2
            go_meet
            case rel => exact ⟨false, rfl, Lib.hid ⟨HBQ.out, fun _ => ⟨fun h => by (cases h), fun _ => HNN.out (by trivial), HNQ.out (by trivial)⟩⟩⟩
         ·go_wp2_with fail
          refine (none_fit s.src m.va m.vk _ HSS.out.parts.2.1 HV2.out.src.len80).mono ?_
          rintro e wn ⟨⟨b, rfl, hnm⟩, hbn⟩
          have HBN := Lib.hid hbn
          have HNN := Lib.hid hnm
          have HVN := Lib.hid (HV2.out.below hbn)
          have hln : H < wn.heap.size := HVN.out.lt
          clear hnm hbn d8 d9 d10 d11 d12 d13
          have d8 : wn.cell? ⟨H, 8, none⟩ = some (.int .i64 s.src.op) := HVN.out.at0 8 _ rfl
          have d9 : wn.cell? ⟨H, 9, none⟩ = some (.int .i64 s.src.n) := HVN.out.at0 9 _ rfl
          have d10 : wn.cell? ⟨H, 10, none⟩ = some (.string s.src.name) := HVN.out.at0 10 _ rfl
          have d11 : wn.cell? ⟨H, 11, none⟩ = some (.string s.src.field) := HVN.out.at0 11 _ rfl
          have d12 : wn.cell? ⟨H, 12, none⟩ = some (.slice m.va s.src.sub.length m.vk) := HVN.out.at0 12 _ rfl
          have d13 : wn.cell? ⟨H, 13, none⟩ = some (.int .i64 s.src.line) := HVN.out.at0 13 _ rfl
          cases b
          ·go_wp2_with fail
           refine (fitExprs_any _ [s.src] (Nat.lt_succ_self _) _ _ _ ?r1).mono ?_
           case r1 => exact rowE_one (w := wn.alloc (.cells (ExC s.src m.va m.vk).toArray 28)) (heap_alloc_new _ _) (HVN.out.src.keep (by exact belowBy))
           rintro e wk ⟨⟨b, rfl, hnm⟩, hbn⟩
           have hbn' : Below wn.heap.size wn wk := by exact belowBy
           have hbn2 : Below W2.heap.size W2 wk := HBN.out.trans (hbn'.mono HBN.out.size)
           have HBK := Lib.hid hbn2
           have HNK := Lib.hid hnm
           have HVK := Lib.hid (HV2.out.below hbn2)
           have hlk : H < wk.heap.size := HVK.out.lt
           have d14 : wk.cell? ⟨H, 14, none⟩ = some (.slice m.ca s.conds.length m.ck) := HVK.out.at0 14 _ rfl
           clear hnm hbn hbn' hbn2 d8 d9 d10 d11 d12 d13
           cases b
           ·go_wp2
            go_meet
            case rel => exact ⟨true, rfl, Lib.hid ⟨HBK.out, fun h => by cases h⟩⟩
           ·go_wp2_with fail
            refine (fitExprs_any _ s.conds (Nat.lt_succ_self _) _ _ _ HVK.out.conds).mono ?_
            rintro e wq ⟨⟨b, rfl, hnm⟩, hbn⟩
            have hbn' : Below W2.heap.size W2 wq := HBK.out.trans (hbn.mono HBK.out.size)
            have HBQ := Lib.hid hbn'
            have HNQ := Lib.hid hnm
            clear hnm hbn hbn' d14
            cases b
            ·go_wp2
             go_meet
             case rel => exact ⟨true, rfl, Lib.hid ⟨HBQ.out, fun h => by cases h⟩⟩
            ·go_wp2
             go_meet
             case rel => exact ⟨false, rfl, Lib.hid ⟨HBQ.out, fun _ => ⟨fun _ => HNK.out (by trivial) _ (List.mem_singleton.2 rfl), fun h => by (cases h), HNQ.out (by trivial)⟩⟩⟩
          ·go_wp2
           go_meet
           case rel => exact ⟨true, rfl, Lib.hid ⟨HBN.out, fun h => by cases h⟩⟩
        case rest =>
         obtain ⟨b, rfl, HC⟩ := hcut
         obtain ⟨hbc, hfc⟩ := HC.out
         have HV3 := Lib.hid (HV2.out.below hbc)
         have HB3 := Lib.hid (HB2.out.trans (hbc.mono HB2.out.size))
         have hl3 : H < wc.heap.size := HV3.out.lt
         have hs3 := HB3.out.size
         obtain ⟨W3, rfl⟩ : ∃ W3 : World, W3 = wc := ⟨_, rfl⟩
         have HFC := Lib.hid hfc
         clear HC hbc hfc HV2 HB2 hl2 hs2
         cases b
         ·have hfc := HFC.out (by trivial)
          clear HFC
          obtain ⟨hq1, hq2, hq3⟩ := hfc
          have HVY := Lib.hid hq1
          have HVN := Lib.hid hq2
          have HCF := Lib.hid hq3
          clear hq1 hq2 hq3
          have d0 : W3.cell? ⟨H, 0, none⟩ = some (.int .i64 op) := by have := HV3.out.at0 0 _ rfl; rwa [HOP.out] at this
          obtain ⟨nc, hnc⟩ : ∃ n, s.conds.length = n := ⟨_, rfl⟩
          obtain ⟨nl, hnl⟩ : ∃ n, s.labels.length = n := ⟨_, rfl⟩
          obtain ⟨nf, hnf⟩ : ∃ n, s.fields.length = n := ⟨_, rfl⟩
          have HNC := Lib.hid hnc
          have HNL := Lib.hid hnl
          have HNF := Lib.hid hnf
          clear hnc hnl hnf
          go_upto_block 2 with fail
          go_cut [8, 9, 10, 11, 12] from 121 to 151 (fun a8 a9 a10 a11 a12 wx => ∃ x8 x9 x10 x11 x12 : Nat, a8 = .int .i64 x8 ∧ a9 = .int .i64 x9 ∧ a10 = .int .i64 x10 ∧ a11 = .int .i64 x11 ∧ a12 = .int .i64 x12 ∧ Hid (Below W3.heap.size W3 wx ∧ x8 = cC op nc nf ∧ x9 = cL op nl ∧ x10 = cF op nf ∧ x11 = cB op nc nl ∧ x12 = cM op))
          case first =>
           have d14 : W3.cell? ⟨H, 14, none⟩ = some (.slice m.ca nc m.ck) := by have := HV3.out.at0 14 _ rfl; rwa [HNC.out] at this
           have d15 : W3.cell? ⟨H, 15, none⟩ = some (.slice m.la nl m.lk) := by have := HV3.out.at0 15 _ rfl; rwa [HNL.out] at this
           have d16 : W3.cell? ⟨H, 16, none⟩ = some (.slice m.fa nf m.fk) := by have := HV3.out.at0 16 _ rfl; rwa [HNF.out] at this
           rcases (show op = 1 ∨ op = 2 ∨ op = 3 ∨ op = 4 ∨ op = 5 ∨ op = 6 ∨ op = 7 ∨ op = 8 ∨ op = 9 by omega) with rfl | rfl | rfl | rfl | rfl | rfl | rfl | rfl | rfl
           ·go_wp2
            go_meet
            case rel => exact ⟨0, 0, 0, 0, 0, rfl, rfl, rfl, rfl, rfl, Lib.hid ⟨Below.refl _ _, rfl, rfl, rfl, rfl, rfl⟩⟩
           ·by_cases hz : nc = 0
            ·have hm : max (1 : Int) (nc : Int) = 1 := by omega
             have HZ := Lib.hid hz
             clear hz
             go_wp2_with fail
             refine wp_region_ext (by kernel_rfl) (by kernel_rfl) ?_
             repeat (go_big_quiet_step (fail))
             refine wpQuiet_nil ?_
             intro v8 hv8
             replace hv8 := ext_below hv8
             have HV8 := Lib.hid hv8
             clear hv8 d14 d15 d16
             go_wp2
             go_meet
             case rel => exact ⟨1, 0, 0, 1, 1, by simp [hm], rfl, rfl, by simp [hm], rfl, Lib.hid ⟨HV8.out, by have := HZ.out; simp [cC]; omega, rfl, rfl, by have := HZ.out; simp [cB]; omega, rfl⟩⟩
            ·have hm : max (1 : Int) (nc : Int) = (nc : Int) := by omega
             have HZ := Lib.hid hz
             clear hz
             go_wp2_with fail
             refine wp_region_ext (by kernel_rfl) (by kernel_rfl) ?_
             repeat (go_big_quiet_step (fail))
             refine wpQuiet_nil ?_
             intro v8 hv8
             replace hv8 := ext_below hv8
             have HV8 := Lib.hid hv8
             clear hv8 d14 d15 d16
             go_wp2
             go_meet
             case rel => exact ⟨nc, 0, 0, nc, 1, by simp [hm], rfl, rfl, by simp [hm], rfl, Lib.hid ⟨HV8.out, by have := HZ.out; simp [cC]; omega, rfl, rfl, by have := HZ.out; simp [cB]; omega, rfl⟩⟩
           ·go_wp2_with fail
            refine wp_region_ext (by kernel_rfl) (by kernel_rfl) ?_
            repeat (go_big_quiet_step (fail))
            refine wpQuiet_nil ?_
            intro v8 hv8
            replace hv8 := ext_below hv8
            have HV8 := Lib.hid hv8
            clear hv8 d14 d15 d16
            go_wp2
            go_meet
            case rel => exact ⟨0, nl, 0, nl, 1, rfl, rfl, rfl, rfl, rfl, Lib.hid ⟨HV8.out, rfl, rfl, rfl, rfl, rfl⟩⟩
           ·go_wp2
            go_meet
            case rel => exact ⟨3, 0, 0, 1, 0, rfl, rfl, rfl, rfl, rfl, Lib.hid ⟨Below.refl _ _, rfl, rfl, rfl, rfl, rfl⟩⟩
           ·go_wp2
            go_meet
            case rel => exact ⟨0, 0, 0, 1, 0, rfl, rfl, rfl, rfl, rfl, Lib.hid ⟨Below.refl _ _, rfl, rfl, rfl, rfl, rfl⟩⟩
           ·go_wp2
            go_meet
            case rel => exact ⟨0, 0, 0, 1, 0, rfl, rfl, rfl, rfl, rfl, Lib.hid ⟨Below.refl _ _, rfl, rfl, rfl, rfl, rfl⟩⟩
           ·go_wp2
            go_meet
            case rel => exact ⟨0, 0, 0, 0, 0, rfl, rfl, rfl, rfl, rfl, Lib.hid ⟨Below.refl _ _, rfl, rfl, rfl, rfl, rfl⟩⟩
           ·go_wp2
            go_meet
            case rel => exact ⟨0, 0, 0, 0, 0, rfl, rfl, rfl, rfl, rfl, Lib.hid ⟨Below.refl _ _, rfl, rfl, rfl, rfl, rfl⟩⟩
           ·go_wp2_with fail
            refine wp_region_ext (by kernel_rfl) (by kernel_rfl) ?_
            repeat (go_big_quiet_step (fail))
            refine wpQuiet_nil ?_
            intro v8 hv8
            replace hv8 := ext_below hv8
            have HV8 := Lib.hid hv8
            clear hv8 d14 d15 d16
            go_wp2
            go_meet
            case rel => exact ⟨nf, 0, nf, 0, 0, rfl, rfl, rfl, rfl, rfl, Lib.hid ⟨HV8.out, rfl, rfl, rfl, rfl, rfl⟩⟩
          case rest =>
           obtain ⟨x8, x9, x10, x11, x12, rfl, rfl, rfl, rfl, rfl, HC⟩ := hcut
           obtain ⟨hbc, hz0, hz1, hz2, hz3, hz4⟩ := HC.out
           have hx11 : x11 ≤ 140737488355328 ∧ x12 ≤ 1 := by have a1 := HV3.out.conds.2.2.1; have a2 := HV3.out.labels.2.2.1; rw [HNC.out] at a1; rw [HNL.out] at a2; rw [hz3, hz4]; unfold cB cM; refine ⟨?_, ?_⟩ <;> (repeat' split) <;> omega
           have HZ0 := Lib.hid hz0
           have HZ1 := Lib.hid hz1
           have HZ2 := Lib.hid hz2
           have HZ3 := Lib.hid hz3
           have HZ4 := Lib.hid hz4
           have HV4 := Lib.hid (HV3.out.below hbc)
           have HB4 := Lib.hid (HB3.out.trans (hbc.mono HB3.out.size))
           have hl4 : H < wc.heap.size := HV4.out.lt
           have hs4 := HB4.out.size
           obtain ⟨W4, rfl⟩ : ∃ W4 : World, W4 = wc := ⟨_, rfl⟩
           clear HC hbc hz0 hz1 hz2 hz3 hz4 HV3 HB3 hl3 hs3 d0
           obtain ⟨nb, hnb⟩ : ∃ n, s.blocks.length = n := ⟨_, rfl⟩
           have HNB := Lib.hid hnb
           clear hnb
           go_upto_region 25 with fail
           go_cut [186] from 152 to 186 (fun r wx => ∃ b : Bool, r = .bool b ∧ Hid (Below W4.heap.size W4 wx ∧ (b = false → nc = x8 ∧ nl = x9 ∧ nf = x10 ∧ x11 ≤ nb ∧ nb ≤ x11 + x12)))
           case first =>
            have d14 : W4.cell? ⟨H, 14, none⟩ = some (.slice m.ca nc m.ck) := by have := HV4.out.at0 14 _ rfl; rwa [HNC.out] at this
            have d15 : W4.cell? ⟨H, 15, none⟩ = some (.slice m.la nl m.lk) := by have := HV4.out.at0 15 _ rfl; rwa [HNL.out] at this
            have d16 : W4.cell? ⟨H, 16, none⟩ = some (.slice m.fa nf m.fk) := by have := HV4.out.at0 16 _ rfl; rwa [HNF.out] at this
            have d17 : W4.cell? ⟨H, 17, none⟩ = some (.slice m.ba nb m.bk) := by have := HV4.out.at0 17 _ rfl; rwa [HNB.out] at this
            by_cases h0 : nc = x8
            ·have t0 : ((nc : Int) != (x8 : Int)) = false := by simp; omega
             have H0 := Lib.hid h0
             clear h0
             by_cases h1 : nl = x9
             ·have t1 : ((nl : Int) != (x9 : Int)) = false := by simp; omega
              have H1 := Lib.hid h1
              clear h1
              by_cases h2 : nf = x10
              ·have t2 : ((nf : Int) != (x10 : Int)) = false := by simp; omega
               have H2 := Lib.hid h2
               clear h2
               by_cases h3 : (nb : Int) < (x11 : Int)
               ·go_wp2
                go_meet
                case rel => exact ⟨true, rfl, Lib.hid ⟨Below.refl _ _, fun h => by cases h⟩⟩
               ·by_cases h4 : (x11 : Int) + (x12 : Int) < (nb : Int)
                ·go_wp2
                 go_meet
                 case rel => exact ⟨true, rfl, Lib.hid ⟨Below.refl _ _, fun h => by cases h⟩⟩
                ·have hle : x11 ≤ nb ∧ nb ≤ x11 + x12 := by omega
                 have HLE := Lib.hid hle
                 clear hle
                 go_wp2
                 go_meet
                 case rel => exact ⟨false, rfl, Lib.hid ⟨Below.refl _ _, fun _ => ⟨H0.out, H1.out, H2.out, HLE.out.1, HLE.out.2⟩⟩⟩
              ·have t2 : ((nf : Int) != (x10 : Int)) = true := by simp; omega
               go_wp2
               go_meet
               case rel => exact ⟨true, rfl, Lib.hid ⟨Below.refl _ _, fun h => by cases h⟩⟩
             ·have t1 : ((nl : Int) != (x9 : Int)) = true := by simp; omega
              go_wp2
              go_meet
              case rel => exact ⟨true, rfl, Lib.hid ⟨Below.refl _ _, fun h => by cases h⟩⟩
            ·have t0 : ((nc : Int) != (x8 : Int)) = true := by simp; omega
             go_wp2
             go_meet
             case rel => exact ⟨true, rfl, Lib.hid ⟨Below.refl _ _, fun h => by cases h⟩⟩
           case rest =>
            obtain ⟨b, rfl, HC⟩ := hcut
            obtain ⟨hbc, hfc⟩ := HC.out
            have HV5 := Lib.hid (HV4.out.below hbc)
            have HB5 := Lib.hid (HB4.out.trans (hbc.mono HB4.out.size))
            have hl5 : H < wc.heap.size := HV5.out.lt
            have hs5 := HB5.out.size
            obtain ⟨W5, rfl⟩ : ∃ W5 : World, W5 = wc := ⟨_, rfl⟩
            have HFC := Lib.hid hfc
            clear HC hbc hfc HV4 HB4 hl4 hs4
            cases b
            ·have hfc := HFC.out (by trivial)
             clear HFC
             obtain ⟨hq1, hq2, hq3, hq4, hq5⟩ := hfc
             have HC0 := Lib.hid hq1
             have HC1 := Lib.hid hq2
             have HC2 := Lib.hid hq3
             have HC3 := Lib.hid hq4
             have HC4 := Lib.hid hq5
             clear hq1 hq2 hq3 hq4 hq5 hl5 hs5
             have HX0 := HX
             clear HX
             have HVB := HV5
             have HBB := HB5
             clear HV5 HB5
             go_wp2_with fail
             go_loopw [13] (fun vi wr => ∃ (j : Nat), j ≤ nf ∧ vi = .int .i64 j ∧ Hid (∀ q z, q < j → s.fields[q]? = some z → z.size ≤ 16) ∧ Below W5.heap.size W5 wr) (fun vi _ => nf - (intOf vi).toNat)
             case atStart => exact ⟨0, by omega, rfl, Lib.hid (fun q _ hq => by omega), Below.refl _ _⟩
             case round =>
              obtain ⟨j, hj, rfl, HIN, hbq⟩ := hrel
              have HX := Lib.hid (HVB.out.below hbq)
              have hlx : H < wr.heap.size := HX.out.lt
              have d16 : wr.cell? ⟨H, 16, none⟩ = some (.slice m.fa nf m.fk) := by have := HX.out.at0 16 _ rfl; rwa [HNF.out] at this
              have hbb1 := HX.out.fields.1
              have hbb2 := HX.out.fields.2.1
              rw [HNF.out] at hbb1
              by_cases hlt2 : j < nf
              ·as_aux_lemma =>
                have hj0 : (0 : Int) ≤ (j : Int) ∧ (j : Int) < (nf : Int) := by omega
                obtain ⟨q1, r1, z, c1, hA1, hq1, hz1, rfl, hc1⟩ := RowOf.at HX.out.fields (i := j) (by rw [HNF.out]; exact hlt2)
                have v1 : wr.cell? ⟨q1, r1 + j, none⟩ = some (.string z) := by have := hc1 0 (by omega); rwa [Nat.mul_one, Nat.add_zero] at this
                have HZ1' := Lib.hid hz1
                rw [hA1] at d16
                have HQ := Lib.hid hbq
                clear hc1 hz1 hA1 hbq HX
                go_wp2_with fail
                refine (name19_any z _).mono ?_
                rintro e v8 ⟨⟨b, rfl, hnm⟩, hbn⟩
                have HBN := Lib.hid (HQ.out.trans (hbn.mono HQ.out.size))
                have HNN := Lib.hid hnm
                clear hnm hbn d16 v1
                cases b
                ·go_wp2
                 go_ret
                 exact ⟨⟨_, rfl, fun h => by cases h⟩, HBB.out.trans (HBN.out.mono HBB.out.size)⟩
                ·go_wp2
                 go_roundw
                 case rel =>
                  refine ⟨j + 1, by omega, by go_num, Lib.hid (fun q z' hq hz => ?_), HBN.out⟩
                  rcases Nat.lt_succ_iff_lt_or_eq.1 hq with h | rfl
                  ·exact HIN.out q _ h hz
                  ·rw [HZ1'.out] at hz
                   cases hz
                   exact (HNN.out (by trivial)).2
                 case measure => simp [intOf]; omega
              ·obtain rfl : j = nf := by omega
               have hbk := HBB.out.trans (hbq.mono HBB.out.size)
               have HFLD := Lib.hid (HIN.out)
               have HBB2 := Lib.hid hbk
               have HVB2 := HX
               clear HBB HVB hbq hbk HX hlx HIN
               have HBB := HBB2
               have HVB := HVB2
               clear HBB2 HVB2
               obtain ⟨V1, rfl⟩ : ∃ V : World, V = wr := ⟨_, rfl⟩
               go_wp2_with fail
               clear d16
               go_loopw [14] (fun vi wr => ∃ (j : Nat), j ≤ nl ∧ vi = .int .i64 j ∧ Hid (∀ q z, q < j → s.labels[q]? = some z → z.length % 2 = 0) ∧ Below V1.heap.size V1 wr) (fun vi _ => nl - (intOf vi).toNat)
               case atStart => exact ⟨0, by omega, rfl, Lib.hid (fun q _ hq => by omega), Below.refl _ _⟩
               case round =>
                obtain ⟨j, hj, rfl, HIN, hbq⟩ := hrel
                have HX := Lib.hid (HVB.out.below hbq)
                have hlx : H < wr.heap.size := HX.out.lt
                have d15 : wr.cell? ⟨H, 15, none⟩ = some (.slice m.la nl m.lk) := by have := HX.out.at0 15 _ rfl; rwa [HNL.out] at this
                have hbb1 := HX.out.labels.1
                have hbb2 := HX.out.labels.2.1
                rw [HNL.out] at hbb1
                by_cases hlt2 : j < nl
                ·as_aux_lemma =>
                  have hj0 : (0 : Int) ≤ (j : Int) ∧ (j : Int) < (nl : Int) := by omega
                  obtain ⟨q1, r1, z, c1, hA1, hq1, hz1, ⟨I1, l1, rfl, w1'⟩, hc1⟩ := RowOf.at HX.out.labels (i := j) (by rw [HNL.out]; exact hlt2)
                  obtain ⟨lz, hlz⟩ : ∃ n, z.length = n := ⟨_, rfl⟩
                  have v1 : wr.cell? ⟨q1, r1 + j, none⟩ = some (.slice I1 lz l1) := by have := hc1 0 (by omega); rwa [Nat.mul_one, Nat.add_zero, hlz] at this
                  have hbz1 := w1'.1
                  have hbz2 := w1'.2.1
                  rw [hlz] at hbz1
                  have HRL := Lib.hid w1'
                  have HLZ := Lib.hid hlz
                  have HZ1' := Lib.hid hz1
                  have HA1 := Lib.hid hA1
                  have HQ1 := Lib.hid hq1
                  have HV1C := Lib.hid v1
                  rw [hA1] at d15
                  have HBQ := Lib.hid hbq
                  have hbl := HBB.out.trans (hbq.mono HBB.out.size)
                  have HBL := Lib.hid hbl
                  have HXL := HX
                  clear hc1 hz1 hA1 hbq hbl HX w1' hlz
                  by_cases hl0 : lz = 0
                  ·subst hl0
                   go_wp2
                   go_ret
                   exact ⟨⟨_, rfl, fun h => by cases h⟩, HBL.out⟩
                  ·by_cases hl1 : lz % 2 = 1
                   ·have hm0 : ((lz : Int) == 0) = false := by simp; omega
                    have hm1 : Int.tmod (lz : Int) 2 = 1 := by rw [Int.tmod_eq_emod_of_nonneg (by omega)]; omega
                    go_wp2
                    go_ret
                    exact ⟨⟨_, rfl, fun h => by cases h⟩, HBL.out⟩
                   ·have hm0 : ((lz : Int) == 0) = false := by simp; omega
                    have hm1 : Int.tmod (lz : Int) 2 = 0 := by rw [Int.tmod_eq_emod_of_nonneg (by omega)]; omega
                    have HMOD : Hid (lz % 2 = 0) := Lib.hid (by omega)
                    clear hl0 hl1
                    go_wp2_with fail
                    clear hm0 hm1 d15 v1
                    obtain ⟨VL, rfl⟩ : ∃ V : World, V = wr := ⟨_, rfl⟩
                    go_loopw [15] (fun vi wr => ∃ (jj : Nat), jj ≤ lz ∧ vi = .int .i64 jj ∧ Below VL.heap.size VL wr) (fun vi _ => lz - (intOf vi).toNat)
                    case atStart => exact ⟨0, by omega, rfl, Below.refl _ _⟩
                    case round =>
                     obtain ⟨jj, hjj, rfl, hbj⟩ := hrel
                     have HXJ := Lib.hid (HXL.out.below hbj)
                     have hlj : H < wr.heap.size := HXJ.out.lt
                     have d15 : wr.cell? ⟨H, 15, none⟩ = some (.slice (some ⟨q1, r1, none⟩) nl m.lk) := by have := HXJ.out.at0 15 _ rfl; rwa [HNL.out, HA1.out] at this
                     have hqw : q1 < wr.heap.size := Nat.lt_of_lt_of_le HQ1.out hbj.size
                     have v1 : wr.cell? ⟨q1, r1 + j, none⟩ = some (.slice I1 lz l1) := (hbj.cell (p := ⟨q1, r1 + j, none⟩) HQ1.out).trans HV1C.out
                     by_cases hlt3 : jj < lz
                     ·have hjj0 : (0 : Int) ≤ (jj : Int) ∧ (jj : Int) < (lz : Int) := by omega
                      obtain ⟨q2, r2, y, c2, hA2, hq2, hz2, ⟨rfl, hy⟩, hc2⟩ := RowOf.at HRL.out (i := jj) (by rw [HLZ.out]; exact hlt3)
                      have hc2' := hc2 0 (by omega)
                      rw [Nat.mul_one, Nat.add_zero] at hc2'
                      have v2 : wr.cell? ⟨q2, r2 + jj, none⟩ = some (.int .i64 y) := (hbj.cell (p := ⟨q2, r2 + jj, none⟩) hq2).trans hc2'
                      have hqw2 : q2 < wr.heap.size := Nat.lt_of_lt_of_le hq2 hbj.size
                      rw [hA2] at v1
                      have HBJ := Lib.hid hbj
                      clear hA2 hz2 hc2 hc2' hy hbj HXJ
                      by_cases hmin : y = -9223372036854775808
                      ·subst hmin
                       go_wp2
                       go_ret
                       exact ⟨⟨_, rfl, fun h => by cases h⟩, HBL.out.trans (HBJ.out.mono HBL.out.size)⟩
                      ·have hmb : (y == -9223372036854775808) = false := by simp [hmin]
                       go_wp2
                       go_roundw
                       case rel => exact ⟨jj + 1, by omega, by go_num, HBJ.out⟩
                       case measure => simp [intOf]; omega
                     ·obtain rfl : jj = lz := by omega
                      have HBJ := Lib.hid hbj
                      clear hbj HXJ
                      go_wp2
                      go_roundw
                      case rel =>
                       refine ⟨j + 1, by omega, by go_num, Lib.hid (fun q z' hq hz => ?_), HBQ.out.trans (HBJ.out.mono HBQ.out.size)⟩
                       rcases Nat.lt_succ_iff_lt_or_eq.1 hq with h | rfl
                       ·exact HIN.out q _ h hz
                       ·rw [HZ1'.out] at hz
                        cases hz
                        rw [HLZ.out]
                        exact HMOD.out
                      case measure => simp [intOf]; omega
                ·obtain rfl : j = nl := by omega
                 have hbk := HBB.out.trans (hbq.mono HBB.out.size)
                 have HLAB := Lib.hid (HIN.out)
                 have HBB2 := Lib.hid hbk
                 have HVB2 := HX
                 clear HBB HVB hbq hbk HX hlx HIN
                 have HBB := HBB2
                 have HVB := HVB2
                 clear HBB2 HVB2
                 obtain ⟨V2, rfl⟩ : ∃ V : World, V = wr := ⟨_, rfl⟩
                 go_wp2_with fail
                 clear d15
                 go_loopw [16] (fun vi wr => ∃ (j : Nat), j ≤ nb ∧ vi = .int .i64 j ∧ Hid (∀ q z, q < j → s.blocks[q]? = some z → ∀ t ∈ z, FitS t) ∧ Below V2.heap.size V2 wr) (fun vi _ => nb - (intOf vi).toNat)
                 case atStart => exact ⟨0, by omega, rfl, Lib.hid (fun q _ hq => by omega), Below.refl _ _⟩
                 case round =>
                  obtain ⟨j, hj, rfl, HIN, hbq⟩ := hrel
                  have HX := Lib.hid (HVB.out.below hbq)
                  have hlx : H < wr.heap.size := HX.out.lt
                  have d17 : wr.cell? ⟨H, 17, none⟩ = some (.slice m.ba nb m.bk) := by have := HX.out.at0 17 _ rfl; rwa [HNB.out] at this
                  have hbb1 := HX.out.blocks.1
                  have hbb2 := HX.out.blocks.2.1
                  rw [HNB.out] at hbb1
                  by_cases hlt2 : j < nb
                  ·as_aux_lemma =>
                    have hj0 : (0 : Int) ≤ (j : Int) ∧ (j : Int) < (nb : Int) := by omega
                    obtain ⟨q1, r1, z, c1, hA1, hq1, hz1, ⟨I1, l1, rfl, w1'⟩, hc1⟩ := RowOf.at HX.out.blocks (i := j) (by rw [HNB.out]; exact hlt2)
                    have v1 : wr.cell? ⟨q1, r1 + j, none⟩ = some (.slice I1 z.length l1) := by have := hc1 0 (by omega); rwa [Nat.mul_one, Nat.add_zero] at this
                    have HR1 := Lib.hid w1'
                    have hsz1 := block_lt HX0.out hz1
                    have hsz2 := HSZ.out
                    have HSL : Hid (SizeOf.sizeOf z < k) := Lib.hid (by omega)
                    have HZ1' := Lib.hid hz1
                    have HSMB := Lib.hid (HSS.out.parts.2.2 z (List.mem_of_getElem? hz1))
                    clear w1' hsz1 hsz2
                    rw [hA1] at d17
                    have HQ := Lib.hid hbq
                    clear hc1 hz1 hA1 hbq HX
                    go_wp2_with fail
                    refine (HIH.out z HSL.out _ _ _ HR1.out HSMB.out).mono ?_
                    rintro e v8 ⟨⟨b, rfl, hnm⟩, hbn⟩
                    have HBN := Lib.hid (HQ.out.trans (hbn.mono HQ.out.size))
                    have HNN := Lib.hid hnm
                    clear hnm hbn d17 v1
                    cases b
                    ·go_wp2
                     go_ret
                     exact ⟨⟨_, rfl, fun h => by cases h⟩, HBB.out.trans (HBN.out.mono HBB.out.size)⟩
                    ·go_wp2
                     go_roundw
                     case rel =>
                      refine ⟨j + 1, by omega, by go_num, Lib.hid (fun q z' hq hz => ?_), HBN.out⟩
                      rcases Nat.lt_succ_iff_lt_or_eq.1 hq with h | rfl
                      ·exact HIN.out q _ h hz
                      ·rw [HZ1'.out] at hz
                       cases hz
                       exact HNN.out (by trivial)
                     case measure => simp [intOf]; omega
                  ·obtain rfl : j = nb := by omega
                   have HEND := Lib.hid (HBB.out.trans (hbq.mono HBB.out.size))
                   have HFS : Hid (FitS s) := Lib.hid (by
                    have e1 := HOP.out; have e2 := HNC.out; have e3 := HNL.out; have e4 := HNF.out; have e5 := HNB.out; have c0 := HC0.out; have c1 := HC1.out; have c2 := HC2.out; have c3 := HC3.out; have c4 := HC4.out; have z0 := HZ0.out; have z1 := HZ1.out; have z2 := HZ2.out; have z3 := HZ3.out; have z4 := HZ4.out
                    refine .mk s ⟨by omega, by omega, HNSZ.out, fun h => HTY.out ?_, fun h => HTN.out ?_, fun h => HVY.out ?_, fun h => HVN.out ?_, HCF.out, fun h => ?_, fun h => ?_, fun h => ?_, fun h => ?_, fun h => ?_⟩ (fun f hf => ?_) (fun l hl => ?_) (fun bl hb => ?_)
                    ·rw [← HTTQ.out]; unfold shTo; exact decide_eq_true (by omega)
                    ·rw [← HTTQ.out]; unfold shTo; exact decide_eq_false (by omega)
                    ·rw [← HVVQ.out]; unfold shVal; exact decide_eq_true (by omega)
                    ·rw [← HVVQ.out]; unfold shVal; exact decide_eq_false (by omega)
                    ·have ho : op = 2 := by omega
                     subst ho
                     simp [cC] at z0
                     simp [cB] at z3
                     simp [cM] at z4
                     omega
                    ·have ho : op = 3 := by omega
                     subst ho
                     simp [cB] at z3
                     simp [cM] at z4
                     omega
                    ·have ho : op = 4 := by omega
                     subst ho
                     simp [cC] at z0
                     simp [cB] at z3
                     simp [cM] at z4
                     omega
                    ·rcases h with h | h
                     ·have ho : op = 5 := by omega
                      subst ho
                      simp [cB] at z3
                      simp [cM] at z4
                      omega
                     ·have ho : op = 6 := by omega
                      subst ho
                      simp [cB] at z3
                      simp [cM] at z4
                      omega
                    ·have ho : op = 9 := by omega
                     subst ho
                     simp [cC] at z0
                     omega
                    ·obtain ⟨q, hq⟩ := List.getElem?_of_mem hf
                     exact HFLD.out q f (by have := (List.getElem?_eq_some_iff.1 hq).1; omega) hq
                    ·obtain ⟨q, hq⟩ := List.getElem?_of_mem hl
                     exact HLAB.out q l (by have := (List.getElem?_eq_some_iff.1 hq).1; omega) hq
                    ·obtain ⟨q, hq⟩ := List.getElem?_of_mem hb
                     exact HIN.out q bl (by have := (List.getElem?_eq_some_iff.1 hq).1; omega) hq)
                   clear hbq HX HIN
                   as_aux_lemma =>
                    go_wp2
                    go_roundw
                    case rel =>
                     refine ⟨i + 1, by omega, by go_num, Lib.hid (fun j y hj hy => ?_), HEND.out⟩
                     rcases Nat.lt_succ_iff_lt_or_eq.1 hj with h | rfl
                     ·exact HFI.out j y h hy
                     ·rw [HX0.out] at hy
                      cases hy
                      exact HFS.out
                    case measure => simp [intOf]; omega
            ·go_wp2
             go_ret
             exact ⟨⟨_, rfl, fun h => by cases h⟩, HB5.out⟩
         ·go_wp2
          go_ret
          exact ⟨⟨_, rfl, fun h => by cases h⟩, HB3.out⟩
       ·go_wp2
        go_ret
        exact ⟨⟨_, rfl, fun h => by cases h⟩, HB2.out⟩
     ·go_wp2
      go_ret
      exact ⟨⟨_, rfl, fun h => by cases h⟩, HB1.out⟩
   ·obtain rfl : i = n := by omega
    go_wp2
    go_ret
    exact ⟨⟨_, rfl, fun _ x hx => by
     obtain ⟨j, hj⟩ := List.getElem?_of_mem hx
     have := (List.getElem?_eq_some_iff.1 hj).1
     exact HFI.out j x (by rw [← HN.out]; exact this) hj⟩, hbr⟩

end Go.Proofs.YtahjijdadifkaaaDoor
