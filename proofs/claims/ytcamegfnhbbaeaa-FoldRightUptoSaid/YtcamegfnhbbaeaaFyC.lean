/- Do statements fit? Told exactly: the walk. PRINTED by wip/tool/mkfity.py -/
import Derived.Test.YtcamegfnhbbaeaaM21
import Derived.Test.YtcamegfnhbbaeaaFxB
namespace Go.Proofs.Ytcamegfnhbbaeaa
open Go.RowKit
set_option linter.unusedVariables false
set_option linter.unusedSimpArgs false
attribute [local go_sem] ite_max ite_min vite_max vite_min ext_cell ext_frozen

set_option maxRecDepth 100000 in
set_option maxHeartbeats 8000000 in
theorem fitStmts_at : ∀ (k : Nat) (xs : List Stm), SizeOf.sizeOf xs < k → ∀ (w : World) (A : Option Addr) (cap : Nat), RowT w A xs cap → (∀ s ∈ xs, SmS s) → Calls Try.prog 29 #[.slice A xs.length cap] w fun e w' => e = .returned (.bool (fitSsB xs)) ∧ Below w.heap.size w w' := by
  intro k
  induction k with
  | zero => intro xs h; omega
  | succ k ih =>
    intro xs hsz w A cap hrow hsm
    have HIH := Lib.hid ih
    have HSZ := Lib.hid hsz
    have HR := Lib.hid hrow
    have HSM := Lib.hid hsm
    have hl := hrow.1
    have hc := hrow.2.1
    obtain ⟨n, hn⟩ : ∃ n, xs.length = n := ⟨_, rfl⟩
    rw [hn] at hl ⊢
    have HN := Lib.hid hn
    obtain ⟨res, hres⟩ : ∃ r, fitSsB xs = r := ⟨_, rfl⟩
    have HRES := Lib.hid hres
    rw [hres]
    clear ih hrow hn hsm hsz hres
    go_enter Try.func29, Try.ntmps29
    go_wp2_with fail
    go_loopw [3] (fun vi wr => ∃ (i : Nat), i ≤ n ∧ vi = .int .i64 i ∧ Hid (∀ j s, j < i → xs[j]? = some s → fitSB s = true) ∧ Below w.heap.size w wr) (fun vi _ => n - (intOf vi).toNat)
    case atStart => exact ⟨0, by omega, rfl, Lib.hid (fun j x hj => by omega), Below.refl _ _⟩
    case round =>
      obtain ⟨i, hi, rfl, HFI, hbr⟩ := hrel
      by_cases hlt : i < n
      · obtain ⟨bb, off, s, m, rfl, hbl, hx, hsv⟩ := RowT.at (HR.out.below hbr) (i := i) (by rw [HN.out]; exact hlt)
        have hi0 : (0 : Int) ≤ (i : Int) ∧ (i : Int) < (n : Int) := by omega
        have HX := Lib.hid hx
        have HS := Lib.hid hsv
        have HSS := Lib.hid (HSM.out s (List.mem_of_getElem? hx))
        have HNO : Hid (fitSB s = false → res = false) := Lib.hid (fun h => by rw [← HRES.out]; exact fitSsB_no HX.out h)
        clear hsv hx
        go_upto_region 5 with (first
          | refine wpList_load_mid rfl 63 _ rfl bb (off + i * 19) rfl (StmC s m) _ HS.out.cell Try.underlying63 rfl stmt_size ?_
          | refine wpList_store_new rfl 63 _ _ rfl wr _ (StmC s m).toArray rfl rfl rfl stmt_size rfl (stmC_one s m) ?_)
        refine wp_name fun W hW => ?_
        obtain ⟨H, hH⟩ : ∃ H, H = wr.heap.size := ⟨_, rfl⟩
        rw [← hH]
        have hB : Below wr.heap.size wr W := by rw [hW.out]; (repeat' (first | (with_reducible exact Below.refl _ _) | (with_reducible assumption) | (with_reducible refine below_drewN ?_ _) | (with_reducible refine Below.drew ?_) | (with_reducible refine below_new ?_ (Nat.le_refl _) _) | (with_reducible refine Below.setCell ?_ ?_ _) | (with_reducible refine below_go ?_ (by assumption) (Nat.le_refl _)) | (simp; done) | (simp; omega) | omega))
        have hh : W.heap[H]? = some (.cells (StmC s m).toArray 63) := by rw [hW.out, hH]; exact heap_alloc_new _ _
        have HV := Lib.hid (HS.out.copy hB hh)
        have HB := Lib.hid (hbr.trans (hB.mono hbr.size))
        have hHl : H < W.heap.size := HV.out.lt
        have hWs := HB.out.size
        clear hW hB hh hH hbr HS
        obtain ⟨op, hop⟩ : ∃ op, s.op = op := ⟨_, rfl⟩
        have HOP := Lib.hid hop
        have d0 : W.cell? ⟨H, 0, none⟩ = some (.int .i64 op) := by rw [← hop]; exact HV.out.at0 0 _ rfl
        obtain ⟨nm, hnm⟩ : ∃ b, shNamed op = b := ⟨_, rfl⟩
        obtain ⟨tt, htt⟩ : ∃ b, shTo op = b := ⟨_, rfl⟩
        obtain ⟨vv, hvv⟩ : ∃ b, shVal op = b := ⟨_, rfl⟩
        have HSH : Hid (∀ W, Calls Try.prog 53 #[.int .i64 op] W fun e w' => e = .returned (.tuple #[.bool nm, .bool tt, .bool vv]) ∧ W = w') := Lib.hid (fun W => by have := shape_any op W; rwa [hnm, htt, hvv] at this)
        have HNMQ := Lib.hid hnm
        have HTTQ := Lib.hid htt
        have HVVQ := Lib.hid hvv
        clear hop hnm htt hvv
        go_upto_region 6 with ((go_at_call 53; refine (HSH.out _).mono ?_; rintro e w' ⟨rfl, rfl⟩))
        clear HSH
        go_cut [59] from 34 to 59 (fun r wx => ∃ b : Bool, r = .bool b ∧ Hid (Below W.heap.size W wx ∧ b = !okA op s.name))
        case first =>
          have d1 : W.cell? ⟨H, 1, none⟩ = some (.string s.name) := HV.out.at0 1 _ rfl
          by_cases hlo : op < 1
          · go_wp2
            go_meet
            case rel => exact ⟨_, rfl, Lib.hid ⟨Below.refl _ _, by rw [okA_lo hlo]; rfl⟩⟩
          by_cases hhi : 9 < op
          · go_wp2
            go_meet
            case rel => exact ⟨_, rfl, Lib.hid ⟨Below.refl _ _, by rw [okA_hi hhi]; rfl⟩⟩
          have h19 : 1 ≤ op ∧ op ≤ 9 := by omega
          cases nm
          · by_cases hq : s.name.toList = []
            · have HQ := Lib.hid hq
              go_wp2
              go_meet
              case rel => exact ⟨_, rfl, Lib.hid ⟨Below.refl _ _, by rw [okA_em h19 HNMQ.out HQ.out]; rfl⟩⟩
            · have HQ := Lib.hid hq
              go_wp2
              go_meet
              case rel => exact ⟨_, rfl, Lib.hid ⟨Below.refl _ _, by rw [okA_ne HNMQ.out HQ.out]; simp [hq]⟩⟩
          · obtain ⟨bn, hnm⟩ : ∃ r, nameB s.name = r := ⟨_, rfl⟩
            have HNI := Lib.hid (fun w => name_is s.name w)
            rw [hnm] at HNI
            have HNN := Lib.hid hnm
            clear hnm
            go_wp2_with fail
            refine (HNI.out _).mono ?_
            rintro e wn ⟨rfl, hbn⟩
            have HBN := Lib.hid hbn
            clear hbn d0 d1
            cases bn
            · go_wp2
              go_meet
              case rel => exact ⟨_, rfl, Lib.hid ⟨HBN.out, by rw [okA_nm h19 HNMQ.out HNN.out]; rfl⟩⟩
            · go_wp2
              go_meet
              case rel => exact ⟨_, rfl, Lib.hid ⟨HBN.out, by rw [okA_nm h19 HNMQ.out HNN.out]; rfl⟩⟩
        case rest =>
          obtain ⟨b, rfl, HC⟩ := hcut
          obtain ⟨hbc, hfc⟩ := HC.out
          have HV1 := Lib.hid (HV.out.below hbc)
          have HB1 := Lib.hid (HB.out.trans (hbc.mono HB.out.size))
          have hl1 : H < wc.heap.size := HV1.out.lt
          have hs1 := HB1.out.size
          obtain ⟨W1, rfl⟩ : ∃ W1 : World, W1 = wc := ⟨_, rfl⟩
          have HFC := Lib.hid hfc
          clear HC hbc hfc HV HB hHl hWs d0
          cases b
          · have hfc := not_f HFC.out
            clear HFC
            have HOKA := Lib.hid hfc
            obtain ⟨ho1, ho2⟩ := okA_op hfc
            clear hfc
            go_upto_region 8 with fail
            go_cut [89] from 60 to 89 (fun r wx => ∃ b : Bool, r = .bool b ∧ Hid (Below W1.heap.size W1 wx ∧ b = !okB op s.dst))
            case first =>
              have d2 : W1.cell? ⟨H, 2, none⟩ = some (.int .i64 s.dst.op) := HV1.out.at0 2 _ rfl
              have d3 : W1.cell? ⟨H, 3, none⟩ = some (.int .i64 s.dst.n) := HV1.out.at0 3 _ rfl
              have d4 : W1.cell? ⟨H, 4, none⟩ = some (.string s.dst.name) := HV1.out.at0 4 _ rfl
              have d5 : W1.cell? ⟨H, 5, none⟩ = some (.string s.dst.field) := HV1.out.at0 5 _ rfl
              have d6 : W1.cell? ⟨H, 6, none⟩ = some (.slice m.ta s.dst.sub.length m.tk) := HV1.out.at0 6 _ rfl
              have d7 : W1.cell? ⟨H, 7, none⟩ = some (.int .i64 s.dst.line) := HV1.out.at0 7 _ rfl
              cases tt
              · obtain ⟨bn, hnm⟩ : ∃ r, noneB s.dst = r := ⟨_, rfl⟩
                have HNI := Lib.hid (fun w => none_is s.dst m.ta m.tk w HSS.out.parts.1 HV1.out.dst.len80)
                rw [hnm] at HNI
                have HNN := Lib.hid hnm
                clear hnm
                go_wp2_with fail
                refine (HNI.out _).mono ?_
                rintro e wn ⟨rfl, hbn⟩
                have HBN := Lib.hid hbn
                clear hbn d2 d3 d4 d5 d6 d7
                cases bn
                · go_wp2
                  go_meet
                  case rel => exact ⟨_, rfl, Lib.hid ⟨HBN.out, by rw [okB_none HTTQ.out HNN.out]; rfl⟩⟩
                · go_wp2
                  go_meet
                  case rel => exact ⟨_, rfl, Lib.hid ⟨HBN.out, by rw [okB_none HTTQ.out HNN.out]; rfl⟩⟩
              · by_cases h34 : s.dst.op = 3 ∨ s.dst.op = 4
                · have H34 := Lib.hid h34
                  rcases h34 with h3 | h4
                  · have t3 : (s.dst.op != 3) = false := by simp [h3]
                    clear h3
                    obtain ⟨bf, hbf⟩ : ∃ r, fitEB s.dst = r := ⟨_, rfl⟩
                    have HFI1 := Lib.hid (fun w A k h => fitExprs_is [s.dst] w A k h)
                    rw [show fitEsB [s.dst] = bf by rw [← hbf]; simp [fitEsB]] at HFI1
                    have HFF := Lib.hid hbf
                    clear hbf
                    go_wp2_with fail
                    refine (HFI1.out _ _ _ ?r1).mono ?_
                    case r1 => exact rowE_one (w := W1.alloc (.cells (ExC s.dst m.ta m.tk).toArray 39)) (heap_alloc_new _ _) (HV1.out.dst.keep (by (repeat' (first | (with_reducible exact Below.refl _ _) | (with_reducible assumption) | (with_reducible refine below_drewN ?_ _) | (with_reducible refine Below.drew ?_) | (with_reducible refine below_new ?_ (Nat.le_refl _) _) | (with_reducible refine Below.setCell ?_ ?_ _) | (with_reducible refine below_go ?_ (by assumption) (Nat.le_refl _)) | (simp; done) | (simp; omega) | omega))))
                    rintro e wk ⟨rfl, hbn⟩
                    have hbn' : Below W1.heap.size W1 wk := by (repeat' (first | (with_reducible exact Below.refl _ _) | (with_reducible assumption) | (with_reducible refine below_drewN ?_ _) | (with_reducible refine Below.drew ?_) | (with_reducible refine below_new ?_ (Nat.le_refl _) _) | (with_reducible refine Below.setCell ?_ ?_ _) | (with_reducible refine below_go ?_ (by assumption) (Nat.le_refl _)) | (simp; done) | (simp; omega) | omega))
                    have HBN := Lib.hid hbn'
                    clear hbn hbn' d2 d3 d4 d5 d6 d7
                    cases bf
                    · go_wp2
                      go_meet
                      case rel => exact ⟨_, rfl, Lib.hid ⟨HBN.out, by rw [okB_fit HTTQ.out H34.out HFF.out]; rfl⟩⟩
                    · go_wp2
                      go_meet
                      case rel => exact ⟨_, rfl, Lib.hid ⟨HBN.out, by rw [okB_fit HTTQ.out H34.out HFF.out]; rfl⟩⟩
                  · have t3 : (s.dst.op != 3) = true := by simp [h4]
                    have t4 : (s.dst.op != 4) = false := by simp [h4]
                    clear h4
                    obtain ⟨bf, hbf⟩ : ∃ r, fitEB s.dst = r := ⟨_, rfl⟩
                    have HFI1 := Lib.hid (fun w A k h => fitExprs_is [s.dst] w A k h)
                    rw [show fitEsB [s.dst] = bf by rw [← hbf]; simp [fitEsB]] at HFI1
                    have HFF := Lib.hid hbf
                    clear hbf
                    go_wp2_with fail
                    refine (HFI1.out _ _ _ ?r1).mono ?_
                    case r1 => exact rowE_one (w := W1.alloc (.cells (ExC s.dst m.ta m.tk).toArray 39)) (heap_alloc_new _ _) (HV1.out.dst.keep (by (repeat' (first | (with_reducible exact Below.refl _ _) | (with_reducible assumption) | (with_reducible refine below_drewN ?_ _) | (with_reducible refine Below.drew ?_) | (with_reducible refine below_new ?_ (Nat.le_refl _) _) | (with_reducible refine Below.setCell ?_ ?_ _) | (with_reducible refine below_go ?_ (by assumption) (Nat.le_refl _)) | (simp; done) | (simp; omega) | omega))))
                    rintro e wk ⟨rfl, hbn⟩
                    have hbn' : Below W1.heap.size W1 wk := by (repeat' (first | (with_reducible exact Below.refl _ _) | (with_reducible assumption) | (with_reducible refine below_drewN ?_ _) | (with_reducible refine Below.drew ?_) | (with_reducible refine below_new ?_ (Nat.le_refl _) _) | (with_reducible refine Below.setCell ?_ ?_ _) | (with_reducible refine below_go ?_ (by assumption) (Nat.le_refl _)) | (simp; done) | (simp; omega) | omega))
                    have HBN := Lib.hid hbn'
                    clear hbn hbn' d2 d3 d4 d5 d6 d7
                    cases bf
                    · go_wp2
                      go_meet
                      case rel => exact ⟨_, rfl, Lib.hid ⟨HBN.out, by rw [okB_fit HTTQ.out H34.out HFF.out]; rfl⟩⟩
                    · go_wp2
                      go_meet
                      case rel => exact ⟨_, rfl, Lib.hid ⟨HBN.out, by rw [okB_fit HTTQ.out H34.out HFF.out]; rfl⟩⟩
                · have t3 : (s.dst.op != 3) = true := by simp; omega
                  have t4 : (s.dst.op != 4) = true := by simp; omega
                  have H34 := Lib.hid h34
                  go_wp2
                  go_meet
                  case rel => exact ⟨_, rfl, Lib.hid ⟨Below.refl _ _, by rw [okB_no HTTQ.out H34.out]; rfl⟩⟩
            case rest =>
              obtain ⟨b, rfl, HC⟩ := hcut
              obtain ⟨hbc, hfc⟩ := HC.out
              have HV2 := Lib.hid (HV1.out.below hbc)
              have HB2 := Lib.hid (HB1.out.trans (hbc.mono HB1.out.size))
              have hl2 : H < wc.heap.size := HV2.out.lt
              have hs2 := HB2.out.size
              obtain ⟨W2, rfl⟩ : ∃ W2 : World, W2 = wc := ⟨_, rfl⟩
              have HFC := Lib.hid hfc
              clear HC hbc hfc HV1 HB1 hl1 hs1
              cases b
              · have hfc := not_f HFC.out
                clear HFC
                have HOKB := Lib.hid hfc
                clear hfc
                go_upto_region 10 with fail
                go_cut [118] from 90 to 118 (fun r wx => ∃ b : Bool, r = .bool b ∧ Hid (Below W2.heap.size W2 wx ∧ b = !okC op s.src s.conds))
                case first =>
                  have d8 : W2.cell? ⟨H, 8, none⟩ = some (.int .i64 s.src.op) := HV2.out.at0 8 _ rfl
                  have d9 : W2.cell? ⟨H, 9, none⟩ = some (.int .i64 s.src.n) := HV2.out.at0 9 _ rfl
                  have d10 : W2.cell? ⟨H, 10, none⟩ = some (.string s.src.name) := HV2.out.at0 10 _ rfl
                  have d11 : W2.cell? ⟨H, 11, none⟩ = some (.string s.src.field) := HV2.out.at0 11 _ rfl
                  have d12 : W2.cell? ⟨H, 12, none⟩ = some (.slice m.va s.src.sub.length m.vk) := HV2.out.at0 12 _ rfl
                  have d13 : W2.cell? ⟨H, 13, none⟩ = some (.int .i64 s.src.line) := HV2.out.at0 13 _ rfl
                  cases vv
                  · obtain ⟨bn, hnm⟩ : ∃ r, noneB s.src = r := ⟨_, rfl⟩
                    have HNI := Lib.hid (fun w => none_is s.src m.va m.vk w HSS.out.parts.2.1 HV2.out.src.len80)
                    rw [hnm] at HNI
                    have HNN := Lib.hid hnm
                    clear hnm
                    go_wp2_with fail
                    refine (HNI.out _).mono ?_
                    rintro e wn ⟨rfl, hbn⟩
                    have HBN := Lib.hid hbn
                    have HVN := Lib.hid (HV2.out.below hbn)
                    have hln : H < wn.heap.size := HVN.out.lt
                    clear hbn d8 d9 d10 d11 d12 d13
                    have d14 : wn.cell? ⟨H, 14, none⟩ = some (.slice m.ca s.conds.length m.ck) := HVN.out.at0 14 _ rfl
                    cases bn
                    · go_wp2
                      go_meet
                      case rel => exact ⟨_, rfl, Lib.hid ⟨HBN.out, by rw [okC_n0 HVVQ.out HNN.out]; rfl⟩⟩
                    · obtain ⟨bc, hbc'⟩ : ∃ r, fitEsB s.conds = r := ⟨_, rfl⟩
                      have HFIC := Lib.hid (fun w A k h => fitExprs_is s.conds w A k h)
                      rw [hbc'] at HFIC
                      have HFC' := Lib.hid hbc'
                      clear hbc'
                      go_wp2_with fail
                      refine (HFIC.out _ _ _ HVN.out.conds).mono ?_
                      rintro e wq ⟨rfl, hbn⟩
                      have hbn' : Below W2.heap.size W2 wq := HBN.out.trans (hbn.mono HBN.out.size)
                      have HBQ := Lib.hid hbn'
                      clear hbn hbn' d14
                      cases bc
                      · go_wp2
                        go_meet
                        case rel => exact ⟨_, rfl, Lib.hid ⟨HBQ.out, by rw [okC_n1 HVVQ.out HNN.out HFC'.out]; rfl⟩⟩
                      · go_wp2
                        go_meet
                        case rel => exact ⟨_, rfl, Lib.hid ⟨HBQ.out, by rw [okC_n1 HVVQ.out HNN.out HFC'.out]; rfl⟩⟩
                  · obtain ⟨bn, hnm⟩ : ∃ r, noneB s.src = r := ⟨_, rfl⟩
                    have HNI := Lib.hid (fun w => none_is s.src m.va m.vk w HSS.out.parts.2.1 HV2.out.src.len80)
                    rw [hnm] at HNI
                    have HNN := Lib.hid hnm
                    clear hnm
                    go_wp2_with fail
                    refine (HNI.out _).mono ?_
                    rintro e wn ⟨rfl, hbn⟩
                    have HBN := Lib.hid hbn
                    have HVN := Lib.hid (HV2.out.below hbn)
                    have hln : H < wn.heap.size := HVN.out.lt
                    clear hbn d8 d9 d10 d11 d12 d13
                    have d8 : wn.cell? ⟨H, 8, none⟩ = some (.int .i64 s.src.op) := HVN.out.at0 8 _ rfl
                    have d9 : wn.cell? ⟨H, 9, none⟩ = some (.int .i64 s.src.n) := HVN.out.at0 9 _ rfl
                    have d10 : wn.cell? ⟨H, 10, none⟩ = some (.string s.src.name) := HVN.out.at0 10 _ rfl
                    have d11 : wn.cell? ⟨H, 11, none⟩ = some (.string s.src.field) := HVN.out.at0 11 _ rfl
                    have d12 : wn.cell? ⟨H, 12, none⟩ = some (.slice m.va s.src.sub.length m.vk) := HVN.out.at0 12 _ rfl
                    have d13 : wn.cell? ⟨H, 13, none⟩ = some (.int .i64 s.src.line) := HVN.out.at0 13 _ rfl
                    cases bn
                    · obtain ⟨bf, hbf⟩ : ∃ r, fitEB s.src = r := ⟨_, rfl⟩
                      have HFI1 := Lib.hid (fun w A k h => fitExprs_is [s.src] w A k h)
                      rw [show fitEsB [s.src] = bf by rw [← hbf]; simp [fitEsB]] at HFI1
                      have HFF := Lib.hid hbf
                      clear hbf
                      go_wp2_with fail
                      refine (HFI1.out _ _ _ ?r1).mono ?_
                      case r1 => exact rowE_one (w := wn.alloc (.cells (ExC s.src m.va m.vk).toArray 39)) (heap_alloc_new _ _) (HVN.out.src.keep (by (repeat' (first | (with_reducible exact Below.refl _ _) | (with_reducible assumption) | (with_reducible refine below_drewN ?_ _) | (with_reducible refine Below.drew ?_) | (with_reducible refine below_new ?_ (Nat.le_refl _) _) | (with_reducible refine Below.setCell ?_ ?_ _) | (with_reducible refine below_go ?_ (by assumption) (Nat.le_refl _)) | (simp; done) | (simp; omega) | omega))))
                      rintro e wk ⟨rfl, hbn⟩
                      have hbn' : Below wn.heap.size wn wk := by (repeat' (first | (with_reducible exact Below.refl _ _) | (with_reducible assumption) | (with_reducible refine below_drewN ?_ _) | (with_reducible refine Below.drew ?_) | (with_reducible refine below_new ?_ (Nat.le_refl _) _) | (with_reducible refine Below.setCell ?_ ?_ _) | (with_reducible refine below_go ?_ (by assumption) (Nat.le_refl _)) | (simp; done) | (simp; omega) | omega))
                      have hbn2 : Below W2.heap.size W2 wk := HBN.out.trans (hbn'.mono HBN.out.size)
                      have HBK := Lib.hid hbn2
                      have HVK := Lib.hid (HV2.out.below hbn2)
                      have hlk : H < wk.heap.size := HVK.out.lt
                      have d14 : wk.cell? ⟨H, 14, none⟩ = some (.slice m.ca s.conds.length m.ck) := HVK.out.at0 14 _ rfl
                      clear hbn hbn' hbn2 d8 d9 d10 d11 d12 d13
                      cases bf
                      · go_wp2
                        go_meet
                        case rel => exact ⟨_, rfl, Lib.hid ⟨HBK.out, by rw [okC_v0 HVVQ.out HFF.out]; rfl⟩⟩
                      · obtain ⟨bc, hbc'⟩ : ∃ r, fitEsB s.conds = r := ⟨_, rfl⟩
                        have HFIC := Lib.hid (fun w A k h => fitExprs_is s.conds w A k h)
                        rw [hbc'] at HFIC
                        have HFC' := Lib.hid hbc'
                        clear hbc'
                        go_wp2_with fail
                        refine (HFIC.out _ _ _ HVK.out.conds).mono ?_
                        rintro e wq ⟨rfl, hbn⟩
                        have hbn' : Below W2.heap.size W2 wq := HBK.out.trans (hbn.mono HBK.out.size)
                        have HBQ := Lib.hid hbn'
                        clear hbn hbn' d14
                        cases bc
                        · go_wp2
                          go_meet
                          case rel => exact ⟨_, rfl, Lib.hid ⟨HBQ.out, by rw [okC_v1 HVVQ.out HNN.out HFF.out HFC'.out]; rfl⟩⟩
                        · go_wp2
                          go_meet
                          case rel => exact ⟨_, rfl, Lib.hid ⟨HBQ.out, by rw [okC_v1 HVVQ.out HNN.out HFF.out HFC'.out]; rfl⟩⟩
                    · go_wp2
                      go_meet
                      case rel => exact ⟨_, rfl, Lib.hid ⟨HBN.out, by rw [okC_vn HVVQ.out HNN.out]; rfl⟩⟩
                case rest =>
                  obtain ⟨b, rfl, HC⟩ := hcut
                  obtain ⟨hbc, hfc⟩ := HC.out
                  have HV3 := Lib.hid (HV2.out.below hbc)
                  have HB3 := Lib.hid (HB2.out.trans (hbc.mono HB2.out.size))
                  have hl3 : H < wc.heap.size := HV3.out.lt
                  have hs3 := HB3.out.size
                  obtain ⟨W3, rfl⟩ : ∃ W3 : World, W3 = wc := ⟨_, rfl⟩
                  have HFC := Lib.hid hfc
                  clear HC hbc hfc HV2 HB2 hl2 hs2
                  cases b
                  · have hfc := not_f HFC.out
                    clear HFC
                    have HOKC := Lib.hid hfc
                    clear hfc
                    have d0 : W3.cell? ⟨H, 0, none⟩ = some (.int .i64 op) := by have := HV3.out.at0 0 _ rfl; rwa [HOP.out] at this
                    obtain ⟨nc, hnc⟩ : ∃ n, s.conds.length = n := ⟨_, rfl⟩
                    obtain ⟨nl, hnl⟩ : ∃ n, s.labels.length = n := ⟨_, rfl⟩
                    obtain ⟨nf, hnf⟩ : ∃ n, s.fields.length = n := ⟨_, rfl⟩
                    have HNC := Lib.hid hnc
                    have HNL := Lib.hid hnl
                    have HNF := Lib.hid hnf
                    clear hnc hnl hnf
                    go_upto_block 2 with fail
                    go_cut [8, 9, 10, 11, 12] from 121 to 151 (fun a8 a9 a10 a11 a12 wx => ∃ x8 x9 x10 x11 x12 : Nat, a8 = .int .i64 x8 ∧ a9 = .int .i64 x9 ∧ a10 = .int .i64 x10 ∧ a11 = .int .i64 x11 ∧ a12 = .int .i64 x12 ∧ Hid (Below W3.heap.size W3 wx ∧ x8 = cC op nc nf ∧ x9 = cL op nl ∧ x10 = cF op nf ∧ x11 = cB op nc nl ∧ x12 = cM op))
                    case first =>
                      have d14 : W3.cell? ⟨H, 14, none⟩ = some (.slice m.ca nc m.ck) := by have := HV3.out.at0 14 _ rfl; rwa [HNC.out] at this
                      have d15 : W3.cell? ⟨H, 15, none⟩ = some (.slice m.la nl m.lk) := by have := HV3.out.at0 15 _ rfl; rwa [HNL.out] at this
                      have d16 : W3.cell? ⟨H, 16, none⟩ = some (.slice m.fa nf m.fk) := by have := HV3.out.at0 16 _ rfl; rwa [HNF.out] at this
                      rcases (show op = 1 ∨ op = 2 ∨ op = 3 ∨ op = 4 ∨ op = 5 ∨ op = 6 ∨ op = 7 ∨ op = 8 ∨ op = 9 by omega) with rfl | rfl | rfl | rfl | rfl | rfl | rfl | rfl | rfl
                      · go_wp2
                        go_meet
                        case rel => exact ⟨0, 0, 0, 0, 0, rfl, rfl, rfl, rfl, rfl, Lib.hid ⟨Below.refl _ _, rfl, rfl, rfl, rfl, rfl⟩⟩
                      · by_cases hz : nc = 0
                        · have hm : max (1 : Int) (nc : Int) = 1 := by omega
                          have HZ := Lib.hid hz
                          clear hz
                          go_wp2_with fail
                          refine wp_region_ext (by kernel_rfl) (by kernel_rfl) ?_
                          repeat (go_big_quiet_step (fail))
                          refine wpQuiet_nil ?_
                          intro v8 hv8
                          replace hv8 := ext_below hv8
                          have HV8 := Lib.hid hv8
                          clear hv8 d14 d15 d16
                          go_wp2
                          go_meet
                          case rel => exact ⟨1, 0, 0, 1, 1, by simp [hm], rfl, rfl, by simp [hm], rfl, Lib.hid ⟨HV8.out, by have := HZ.out; simp [cC]; omega, rfl, rfl, by have := HZ.out; simp [cB]; omega, rfl⟩⟩
                        · have hm : max (1 : Int) (nc : Int) = (nc : Int) := by omega
                          have HZ := Lib.hid hz
                          clear hz
                          go_wp2_with fail
                          refine wp_region_ext (by kernel_rfl) (by kernel_rfl) ?_
                          repeat (go_big_quiet_step (fail))
                          refine wpQuiet_nil ?_
                          intro v8 hv8
                          replace hv8 := ext_below hv8
                          have HV8 := Lib.hid hv8
                          clear hv8 d14 d15 d16
                          go_wp2
                          go_meet
                          case rel => exact ⟨nc, 0, 0, nc, 1, by simp [hm], rfl, rfl, by simp [hm], rfl, Lib.hid ⟨HV8.out, by have := HZ.out; simp [cC]; omega, rfl, rfl, by have := HZ.out; simp [cB]; omega, rfl⟩⟩
                      · go_wp2_with fail
                        refine wp_region_ext (by kernel_rfl) (by kernel_rfl) ?_
                        repeat (go_big_quiet_step (fail))
                        refine wpQuiet_nil ?_
                        intro v8 hv8
                        replace hv8 := ext_below hv8
                        have HV8 := Lib.hid hv8
                        clear hv8 d14 d15 d16
                        go_wp2
                        go_meet
                        case rel => exact ⟨0, nl, 0, nl, 1, rfl, rfl, rfl, rfl, rfl, Lib.hid ⟨HV8.out, rfl, rfl, rfl, rfl, rfl⟩⟩
                      · go_wp2
                        go_meet
                        case rel => exact ⟨3, 0, 0, 1, 0, rfl, rfl, rfl, rfl, rfl, Lib.hid ⟨Below.refl _ _, rfl, rfl, rfl, rfl, rfl⟩⟩
                      · go_wp2
                        go_meet
                        case rel => exact ⟨0, 0, 0, 1, 0, rfl, rfl, rfl, rfl, rfl, Lib.hid ⟨Below.refl _ _, rfl, rfl, rfl, rfl, rfl⟩⟩
                      · go_wp2
                        go_meet
                        case rel => exact ⟨0, 0, 0, 1, 0, rfl, rfl, rfl, rfl, rfl, Lib.hid ⟨Below.refl _ _, rfl, rfl, rfl, rfl, rfl⟩⟩
                      · go_wp2
                        go_meet
                        case rel => exact ⟨0, 0, 0, 0, 0, rfl, rfl, rfl, rfl, rfl, Lib.hid ⟨Below.refl _ _, rfl, rfl, rfl, rfl, rfl⟩⟩
                      · go_wp2
                        go_meet
                        case rel => exact ⟨0, 0, 0, 0, 0, rfl, rfl, rfl, rfl, rfl, Lib.hid ⟨Below.refl _ _, rfl, rfl, rfl, rfl, rfl⟩⟩
                      · go_wp2_with fail
                        refine wp_region_ext (by kernel_rfl) (by kernel_rfl) ?_
                        repeat (go_big_quiet_step (fail))
                        refine wpQuiet_nil ?_
                        intro v8 hv8
                        replace hv8 := ext_below hv8
                        have HV8 := Lib.hid hv8
                        clear hv8 d14 d15 d16
                        go_wp2
                        go_meet
                        case rel => exact ⟨nf, 0, nf, 0, 0, rfl, rfl, rfl, rfl, rfl, Lib.hid ⟨HV8.out, rfl, rfl, rfl, rfl, rfl⟩⟩
                    case rest =>
                      obtain ⟨x8, x9, x10, x11, x12, rfl, rfl, rfl, rfl, rfl, HC⟩ := hcut
                      obtain ⟨hbc, hz0, hz1, hz2, hz3, hz4⟩ := HC.out
                      have hx11 : x11 ≤ 140737488355328 ∧ x12 ≤ 1 := by have a1 := HV3.out.conds.2.2.1; have a2 := HV3.out.labels.2.2.1; rw [HNC.out] at a1; rw [HNL.out] at a2; rw [hz3, hz4]; unfold cB cM; refine ⟨?_, ?_⟩ <;> (repeat' split) <;> omega
                      have HZ0 := Lib.hid hz0
                      have HZ1 := Lib.hid hz1
                      have HZ2 := Lib.hid hz2
                      have HZ3 := Lib.hid hz3
                      have HZ4 := Lib.hid hz4
                      have HV4 := Lib.hid (HV3.out.below hbc)
                      have HB4 := Lib.hid (HB3.out.trans (hbc.mono HB3.out.size))
                      have hl4 : H < wc.heap.size := HV4.out.lt
                      have hs4 := HB4.out.size
                      obtain ⟨W4, rfl⟩ : ∃ W4 : World, W4 = wc := ⟨_, rfl⟩
                      clear HC hbc hz0 hz1 hz2 hz3 hz4 HV3 HB3 hl3 hs3 d0
                      obtain ⟨nb, hnb⟩ : ∃ n, s.blocks.length = n := ⟨_, rfl⟩
                      have HNB := Lib.hid hnb
                      clear hnb
                      go_upto_region 25 with fail
                      go_cut [186] from 152 to 186 (fun r wx => ∃ b : Bool, r = .bool b ∧ Hid (Below W4.heap.size W4 wx ∧ b = !okD op nc nl nf nb))
                      case first =>
                        have d14 : W4.cell? ⟨H, 14, none⟩ = some (.slice m.ca nc m.ck) := by have := HV4.out.at0 14 _ rfl; rwa [HNC.out] at this
                        have d15 : W4.cell? ⟨H, 15, none⟩ = some (.slice m.la nl m.lk) := by have := HV4.out.at0 15 _ rfl; rwa [HNL.out] at this
                        have d16 : W4.cell? ⟨H, 16, none⟩ = some (.slice m.fa nf m.fk) := by have := HV4.out.at0 16 _ rfl; rwa [HNF.out] at this
                        have d17 : W4.cell? ⟨H, 17, none⟩ = some (.slice m.ba nb m.bk) := by have := HV4.out.at0 17 _ rfl; rwa [HNB.out] at this
                        by_cases h0 : nc = x8
                        · have t0 : ((nc : Int) != (x8 : Int)) = false := by simp; omega
                          have H0 := Lib.hid h0
                          clear h0
                          by_cases h1 : nl = x9
                          · have t1 : ((nl : Int) != (x9 : Int)) = false := by simp; omega
                            have H1 := Lib.hid h1
                            clear h1
                            by_cases h2 : nf = x10
                            · have t2 : ((nf : Int) != (x10 : Int)) = false := by simp; omega
                              have H2 := Lib.hid h2
                              clear h2
                              by_cases h3 : (nb : Int) < (x11 : Int)
                              · go_wp2
                                go_meet
                                case rel => exact ⟨_, rfl, Lib.hid ⟨Below.refl _ _, by rw [okD_b (by rw [← HZ3.out, ← HZ4.out]; omega)]; rfl⟩⟩
                              · by_cases h4 : (x11 : Int) + (x12 : Int) < (nb : Int)
                                · go_wp2
                                  go_meet
                                  case rel => exact ⟨_, rfl, Lib.hid ⟨Below.refl _ _, by rw [okD_b (by rw [← HZ3.out, ← HZ4.out]; omega)]; rfl⟩⟩
                                · have hle : x11 ≤ nb ∧ nb ≤ x11 + x12 := by omega
                                  have HLE := Lib.hid hle
                                  clear hle
                                  go_wp2
                                  go_meet
                                  case rel => exact ⟨_, rfl, Lib.hid ⟨Below.refl _ _, by rw [okD_yes (by rw [← HZ0.out]; exact H0.out) (by rw [← HZ1.out]; exact H1.out) (by rw [← HZ2.out]; exact H2.out) (by rw [← HZ3.out, ← HZ4.out]; exact HLE.out)]; rfl⟩⟩
                            · have t2 : ((nf : Int) != (x10 : Int)) = true := by simp; omega
                              have H2 := Lib.hid h2
                              clear h2
                              go_wp2
                              go_meet
                              case rel => exact ⟨_, rfl, Lib.hid ⟨Below.refl _ _, by rw [okD_f (by rw [← HZ2.out]; exact H2.out)]; rfl⟩⟩
                          · have t1 : ((nl : Int) != (x9 : Int)) = true := by simp; omega
                            have H1 := Lib.hid h1
                            clear h1
                            go_wp2
                            go_meet
                            case rel => exact ⟨_, rfl, Lib.hid ⟨Below.refl _ _, by rw [okD_l (by rw [← HZ1.out]; exact H1.out)]; rfl⟩⟩
                        · have t0 : ((nc : Int) != (x8 : Int)) = true := by simp; omega
                          have H0 := Lib.hid h0
                          clear h0
                          go_wp2
                          go_meet
                          case rel => exact ⟨_, rfl, Lib.hid ⟨Below.refl _ _, by rw [okD_c (by rw [← HZ0.out]; exact H0.out)]; rfl⟩⟩
                      case rest =>
                        obtain ⟨b, rfl, HC⟩ := hcut
                        obtain ⟨hbc, hfc⟩ := HC.out
                        have HV5 := Lib.hid (HV4.out.below hbc)
                        have HB5 := Lib.hid (HB4.out.trans (hbc.mono HB4.out.size))
                        have hl5 : H < wc.heap.size := HV5.out.lt
                        have hs5 := HB5.out.size
                        obtain ⟨W5, rfl⟩ : ∃ W5 : World, W5 = wc := ⟨_, rfl⟩
                        have HFC := Lib.hid hfc
                        clear HC hbc hfc HV4 HB4 hl4 hs4
                        cases b
                        · have hfc := not_f HFC.out
                          clear HFC
                          have HOKD := Lib.hid hfc
                          clear hfc hl5 hs5
                          have HX0 := HX
                          clear HX
                          have HVB := HV5
                          have HBB := HB5
                          clear HV5 HB5
                          go_wp2_with fail
                          go_loopw [13] (fun vi wr => ∃ (j : Nat), j ≤ nf ∧ vi = .int .i64 j ∧ Hid (∀ q z, q < j → s.fields[q]? = some z → nameB z = true) ∧ Below W5.heap.size W5 wr) (fun vi _ => nf - (intOf vi).toNat)
                          case atStart => exact ⟨0, by omega, rfl, Lib.hid (fun q _ hq => by omega), Below.refl _ _⟩
                          case round =>
                            obtain ⟨j, hj, rfl, HIN, hbq⟩ := hrel
                            have HX := Lib.hid (HVB.out.below hbq)
                            have hlx : H < wr.heap.size := HX.out.lt
                            have d16 : wr.cell? ⟨H, 16, none⟩ = some (.slice m.fa nf m.fk) := by have := HX.out.at0 16 _ rfl; rwa [HNF.out] at this
                            have hbb1 := HX.out.fields.1
                            have hbb2 := HX.out.fields.2.1
                            rw [HNF.out] at hbb1
                            by_cases hlt2 : j < nf
                            · as_aux_lemma =>
                                have hj0 : (0 : Int) ≤ (j : Int) ∧ (j : Int) < (nf : Int) := by omega
                                obtain ⟨q1, r1, z, c1, hA1, hq1, hz1, rfl, hc1⟩ := RowOf.at HX.out.fields (i := j) (by rw [HNF.out]; exact hlt2)
                                have v1 : wr.cell? ⟨q1, r1 + j, none⟩ = some (.string z) := by have := hc1 0 (by omega); rwa [Nat.mul_one, Nat.add_zero] at this
                                have HZ1' := Lib.hid hz1
                                rw [hA1] at d16
                                have HQ := Lib.hid hbq
                                clear hc1 hz1 hA1 hbq HX
                                obtain ⟨bn, hnm⟩ : ∃ r, nameB z = r := ⟨_, rfl⟩
                                have HNI := Lib.hid (fun w => name_is z w)
                                rw [hnm] at HNI
                                have HNN := Lib.hid hnm
                                clear hnm
                                go_wp2_with fail
                                refine (HNI.out _).mono ?_
                                rintro e v8 ⟨rfl, hbn⟩
                                have HBN := Lib.hid (HQ.out.trans (hbn.mono HQ.out.size))
                                clear hbn d16 v1
                                cases bn
                                · have hr := HNO.out (fy_F (all_no HZ1'.out HNN.out))
                                  subst hr
                                  clear HRES
                                  go_wp2
                                  go_ret
                                  exact ⟨rfl, HBB.out.trans (HBN.out.mono HBB.out.size)⟩
                                · go_wp2
                                  go_roundw
                                  case rel =>
                                    refine ⟨j + 1, by omega, by go_num, Lib.hid (fun q z' hq hz => ?_), HBN.out⟩
                                    rcases Nat.lt_succ_iff_lt_or_eq.1 hq with h | rfl
                                    · exact HIN.out q _ h hz
                                    · rw [HZ1'.out] at hz
                                      cases hz
                                      exact HNN.out
                                  case measure => simp [intOf]; omega
                            · obtain rfl : j = nf := by omega
                              have hbk := HBB.out.trans (hbq.mono HBB.out.size)
                              have HFLD := Lib.hid (HIN.out)
                              have HBB2 := Lib.hid hbk
                              have HVB2 := HX
                              clear HBB HVB hbq hbk HX hlx HIN
                              have HBB := HBB2
                              have HVB := HVB2
                              clear HBB2 HVB2
                              obtain ⟨V1, rfl⟩ : ∃ V : World, V = wr := ⟨_, rfl⟩
                              go_wp2_with fail
                              clear d16
                              go_loopw [14] (fun vi wr => ∃ (j : Nat), j ≤ nl ∧ vi = .int .i64 j ∧ Hid (∀ q z, q < j → s.labels[q]? = some z → okL z = true) ∧ Below V1.heap.size V1 wr) (fun vi _ => nl - (intOf vi).toNat)
                              case atStart => exact ⟨0, by omega, rfl, Lib.hid (fun q _ hq => by omega), Below.refl _ _⟩
                              case round =>
                                obtain ⟨j, hj, rfl, HIN, hbq⟩ := hrel
                                have HX := Lib.hid (HVB.out.below hbq)
                                have hlx : H < wr.heap.size := HX.out.lt
                                have d15 : wr.cell? ⟨H, 15, none⟩ = some (.slice m.la nl m.lk) := by have := HX.out.at0 15 _ rfl; rwa [HNL.out] at this
                                have hbb1 := HX.out.labels.1
                                have hbb2 := HX.out.labels.2.1
                                rw [HNL.out] at hbb1
                                by_cases hlt2 : j < nl
                                · as_aux_lemma =>
                                    have hj0 : (0 : Int) ≤ (j : Int) ∧ (j : Int) < (nl : Int) := by omega
                                    obtain ⟨q1, r1, z, c1, hA1, hq1, hz1, ⟨I1, l1, rfl, w1'⟩, hc1⟩ := RowOf.at HX.out.labels (i := j) (by rw [HNL.out]; exact hlt2)
                                    obtain ⟨lz, hlz⟩ : ∃ n, z.length = n := ⟨_, rfl⟩
                                    have v1 : wr.cell? ⟨q1, r1 + j, none⟩ = some (.slice I1 lz l1) := by have := hc1 0 (by omega); rwa [Nat.mul_one, Nat.add_zero, hlz] at this
                                    have hbz1 := w1'.1
                                    have hbz2 := w1'.2.1
                                    rw [hlz] at hbz1
                                    have HRL := Lib.hid w1'
                                    have HLZ := Lib.hid hlz
                                    have HZ1' := Lib.hid hz1
                                    have HA1 := Lib.hid hA1
                                    have HQ1 := Lib.hid hq1
                                    have HV1C := Lib.hid v1
                                    rw [hA1] at d15
                                    have HBQ := Lib.hid hbq
                                    have hbl := HBB.out.trans (hbq.mono HBB.out.size)
                                    have HBL := Lib.hid hbl
                                    have HXL := HX
                                    clear hc1 hz1 hA1 hbq hbl HX w1' hlz
                                    by_cases hl0 : lz = 0
                                    · subst hl0
                                      have hr := HNO.out (fy_L (all_no HZ1'.out (okL_0 HLZ.out)))
                                      subst hr
                                      clear HRES
                                      go_wp2
                                      go_ret
                                      exact ⟨rfl, HBL.out⟩
                                    · by_cases hl1 : lz % 2 = 1
                                      · have hm0 : ((lz : Int) == 0) = false := by simp; omega
                                        have hm1 : Int.tmod (lz : Int) 2 = 1 := by rw [Int.tmod_eq_emod_of_nonneg (by omega)]; omega
                                        have HL1 := Lib.hid hl1
                                        have hr := HNO.out (fy_L (all_no HZ1'.out (okL_1 (by rw [HLZ.out]; exact HL1.out))))
                                        subst hr
                                        clear HRES
                                        go_wp2
                                        go_ret
                                        exact ⟨rfl, HBL.out⟩
                                      · have hm0 : ((lz : Int) == 0) = false := by simp; omega
                                        have hm1 : Int.tmod (lz : Int) 2 = 0 := by rw [Int.tmod_eq_emod_of_nonneg (by omega)]; omega
                                        have HMOD : Hid (lz % 2 = 0) := Lib.hid (by omega)
                                        have HL0 := Lib.hid hl0
                                        clear hl0 hl1
                                        go_wp2_with fail
                                        clear hm0 hm1 d15 v1
                                        obtain ⟨VL, rfl⟩ : ∃ V : World, V = wr := ⟨_, rfl⟩
                                        go_loopw [15] (fun vi wr => ∃ (jj : Nat), jj ≤ lz ∧ vi = .int .i64 jj ∧ Hid (∀ q y, q < jj → z[q]? = some y → y ≠ -9223372036854775808) ∧ Below VL.heap.size VL wr) (fun vi _ => lz - (intOf vi).toNat)
                                        case atStart => exact ⟨0, by omega, rfl, Lib.hid (fun q _ hq => by omega), Below.refl _ _⟩
                                        case round =>
                                          obtain ⟨jj, hjj, rfl, HIJ, hbj⟩ := hrel
                                          have HXJ := Lib.hid (HXL.out.below hbj)
                                          have hlj : H < wr.heap.size := HXJ.out.lt
                                          have d15 : wr.cell? ⟨H, 15, none⟩ = some (.slice (some ⟨q1, r1, none⟩) nl m.lk) := by have := HXJ.out.at0 15 _ rfl; rwa [HNL.out, HA1.out] at this
                                          have hqw : q1 < wr.heap.size := Nat.lt_of_lt_of_le HQ1.out hbj.size
                                          have v1 : wr.cell? ⟨q1, r1 + j, none⟩ = some (.slice I1 lz l1) := (hbj.cell (p := ⟨q1, r1 + j, none⟩) HQ1.out).trans HV1C.out
                                          by_cases hlt3 : jj < lz
                                          · have hjj0 : (0 : Int) ≤ (jj : Int) ∧ (jj : Int) < (lz : Int) := by omega
                                            obtain ⟨q2, r2, y, c2, hA2, hq2, hz2, ⟨rfl, hy⟩, hc2⟩ := RowOf.at HRL.out (i := jj) (by rw [HLZ.out]; exact hlt3)
                                            have hc2' := hc2 0 (by omega)
                                            rw [Nat.mul_one, Nat.add_zero] at hc2'
                                            have v2 : wr.cell? ⟨q2, r2 + jj, none⟩ = some (.int .i64 y) := (hbj.cell (p := ⟨q2, r2 + jj, none⟩) hq2).trans hc2'
                                            have hqw2 : q2 < wr.heap.size := Nat.lt_of_lt_of_le hq2 hbj.size
                                            rw [hA2] at v1
                                            have HBJ := Lib.hid hbj
                                            have HZ2 := Lib.hid hz2
                                            clear hA2 hz2 hc2 hc2' hy hbj HXJ
                                            by_cases hmin : y = -9223372036854775808
                                            · have HMN := Lib.hid hmin
                                              subst hmin
                                              have hr := HNO.out (fy_L (all_no HZ1'.out (okL_min HZ2.out)))
                                              subst hr
                                              clear HRES
                                              go_wp2
                                              go_ret
                                              exact ⟨rfl, HBL.out.trans (HBJ.out.mono HBL.out.size)⟩
                                            · have hmb : (y == -9223372036854775808) = false := by simp [hmin]
                                              have HMN := Lib.hid hmin
                                              go_wp2
                                              go_roundw
                                              case rel =>
                                                refine ⟨jj + 1, by omega, by go_num, Lib.hid (fun q y' hq hy' => ?_), HBJ.out⟩
                                                rcases Nat.lt_succ_iff_lt_or_eq.1 hq with h | rfl
                                                · exact HIJ.out q _ h hy'
                                                · rw [HZ2.out] at hy'
                                                  cases hy'
                                                  exact HMN.out
                                              case measure => simp [intOf]; omega
                                          · obtain rfl : jj = lz := by omega
                                            have HBJ := Lib.hid hbj
                                            clear hbj HXJ
                                            go_wp2
                                            go_roundw
                                            case rel =>
                                              refine ⟨j + 1, by omega, by go_num, Lib.hid (fun q z' hq hz => ?_), HBQ.out.trans (HBJ.out.mono HBQ.out.size)⟩
                                              rcases Nat.lt_succ_iff_lt_or_eq.1 hq with h | rfl
                                              · exact HIN.out q _ h hz
                                              · rw [HZ1'.out] at hz
                                                cases hz
                                                exact okL_yes (by rw [HLZ.out]; exact HL0.out) (by rw [HLZ.out]; exact HMOD.out) (fun q y hy => HIJ.out q y (by have := (List.getElem?_eq_some_iff.1 hy).1; have := HLZ.out; omega) hy)
                                            case measure => simp [intOf]; omega
                                · obtain rfl : j = nl := by omega
                                  have hbk := HBB.out.trans (hbq.mono HBB.out.size)
                                  have HLAB := Lib.hid (HIN.out)
                                  have HBB2 := Lib.hid hbk
                                  have HVB2 := HX
                                  clear HBB HVB hbq hbk HX hlx HIN
                                  have HBB := HBB2
                                  have HVB := HVB2
                                  clear HBB2 HVB2
                                  obtain ⟨V2, rfl⟩ : ∃ V : World, V = wr := ⟨_, rfl⟩
                                  go_wp2_with fail
                                  clear d15
                                  go_loopw [16] (fun vi wr => ∃ (j : Nat), j ≤ nb ∧ vi = .int .i64 j ∧ Hid (∀ q z, q < j → s.blocks[q]? = some z → fitSsB z = true) ∧ Below V2.heap.size V2 wr) (fun vi _ => nb - (intOf vi).toNat)
                                  case atStart => exact ⟨0, by omega, rfl, Lib.hid (fun q _ hq => by omega), Below.refl _ _⟩
                                  case round =>
                                    obtain ⟨j, hj, rfl, HIN, hbq⟩ := hrel
                                    have HX := Lib.hid (HVB.out.below hbq)
                                    have hlx : H < wr.heap.size := HX.out.lt
                                    have d17 : wr.cell? ⟨H, 17, none⟩ = some (.slice m.ba nb m.bk) := by have := HX.out.at0 17 _ rfl; rwa [HNB.out] at this
                                    have hbb1 := HX.out.blocks.1
                                    have hbb2 := HX.out.blocks.2.1
                                    rw [HNB.out] at hbb1
                                    by_cases hlt2 : j < nb
                                    · as_aux_lemma =>
                                        have hj0 : (0 : Int) ≤ (j : Int) ∧ (j : Int) < (nb : Int) := by omega
                                        obtain ⟨q1, r1, z, c1, hA1, hq1, hz1, ⟨I1, l1, rfl, w1'⟩, hc1⟩ := RowOf.at HX.out.blocks (i := j) (by rw [HNB.out]; exact hlt2)
                                        have v1 : wr.cell? ⟨q1, r1 + j, none⟩ = some (.slice I1 z.length l1) := by have := hc1 0 (by omega); rwa [Nat.mul_one, Nat.add_zero] at this
                                        have HR1 := Lib.hid w1'
                                        have hsz1 := block_lt HX0.out hz1
                                        have hsz2 := HSZ.out
                                        have HSL : Hid (SizeOf.sizeOf z < k) := Lib.hid (by omega)
                                        have HZ1' := Lib.hid hz1
                                        have HSMB := Lib.hid (HSS.out.parts.2.2 z (List.mem_of_getElem? hz1))
                                        clear w1' hsz1 hsz2
                                        rw [hA1] at d17
                                        have HQ := Lib.hid hbq
                                        clear hc1 hz1 hA1 hbq HX
                                        obtain ⟨bz, hbz⟩ : ∃ r, fitSsB z = r := ⟨_, rfl⟩
                                        have HIZ := Lib.hid (HIH.out z HSL.out _ _ _ HR1.out HSMB.out)
                                        rw [hbz] at HIZ
                                        have HNN := Lib.hid hbz
                                        clear hbz
                                        go_wp2_with fail
                                        refine HIZ.out.mono ?_
                                        rintro e v8 ⟨rfl, hbn⟩
                                        have HBN := Lib.hid (HQ.out.trans (hbn.mono HQ.out.size))
                                        clear hbn d17 v1
                                        cases bz
                                        · have hr := HNO.out (fy_T (fitBsB_no HZ1'.out HNN.out))
                                          subst hr
                                          clear HRES
                                          go_wp2
                                          go_ret
                                          exact ⟨rfl, HBB.out.trans (HBN.out.mono HBB.out.size)⟩
                                        · go_wp2
                                          go_roundw
                                          case rel =>
                                            refine ⟨j + 1, by omega, by go_num, Lib.hid (fun q z' hq hz => ?_), HBN.out⟩
                                            rcases Nat.lt_succ_iff_lt_or_eq.1 hq with h | rfl
                                            · exact HIN.out q _ h hz
                                            · rw [HZ1'.out] at hz
                                              cases hz
                                              exact HNN.out
                                          case measure => simp [intOf]; omega
                                    · obtain rfl : j = nb := by omega
                                      have HEND := Lib.hid (HBB.out.trans (hbq.mono HBB.out.size))
                                      have HFS : Hid (fitSB s = true) := Lib.hid (fy_yes (by rw [HOP.out]; exact HOKA.out) (by rw [HOP.out]; exact HOKB.out) (by rw [HOP.out]; exact HOKC.out) (by rw [HOP.out, HNC.out, HNL.out, HNF.out, HNB.out]; exact HOKD.out) (all_yes (fun q z hz => HFLD.out q z (by have := (List.getElem?_eq_some_iff.1 hz).1; have := HNF.out; omega) hz)) (all_yes (fun q z hz => HLAB.out q z (by have := (List.getElem?_eq_some_iff.1 hz).1; have := HNL.out; omega) hz)) (fitBsB_yes (fun q z hz => HIN.out q z (by have := (List.getElem?_eq_some_iff.1 hz).1; have := HNB.out; omega) hz)))
                                      clear hbq HX HIN
                                      as_aux_lemma =>
                                        go_wp2
                                        go_roundw
                                        case rel =>
                                          refine ⟨i + 1, by omega, by go_num, Lib.hid (fun j y hj hy => ?_), HEND.out⟩
                                          rcases Nat.lt_succ_iff_lt_or_eq.1 hj with h | rfl
                                          · exact HFI.out j y h hy
                                          · rw [HX0.out] at hy
                                            cases hy
                                            exact HFS.out
                                        case measure => simp [intOf]; omega
                        · have hr := HNO.out (fy_D (by rw [HOP.out, HNC.out, HNL.out, HNF.out, HNB.out]; exact not_t HFC.out))
                          subst hr
                          clear HRES
                          go_wp2
                          go_ret
                          exact ⟨rfl, HB5.out⟩
                  · have hr := HNO.out (fy_C (by rw [HOP.out]; exact not_t HFC.out))
                    subst hr
                    clear HRES
                    go_wp2
                    go_ret
                    exact ⟨rfl, HB3.out⟩
              · have hr := HNO.out (fy_B (by rw [HOP.out]; exact not_t HFC.out))
                subst hr
                clear HRES
                go_wp2
                go_ret
                exact ⟨rfl, HB2.out⟩
          · have hr := HNO.out (fy_A (by rw [HOP.out]; exact not_t HFC.out))
            subst hr
            clear HRES
            go_wp2
            go_ret
            exact ⟨rfl, HB1.out⟩
      · obtain rfl : i = n := by omega
        have hr : res = true := by
          rw [← HRES.out]
          exact fitSsB_yes fun j x hj => by
            have := (List.getElem?_eq_some_iff.1 hj).1
            exact HFI.out j x (by rw [← HN.out]; exact this) hj
        subst hr
        clear HRES
        go_wp2
        go_ret
        exact ⟨rfl, hbr⟩
theorem fitStmts_is (xs : List Stm) (w : World) (A : Option Addr) (cap : Nat) (hr : RowT w A xs cap) (hs : ∀ s ∈ xs, SmS s) : Calls Try.prog 29 #[.slice A xs.length cap] w fun e w' => e = .returned (.bool (fitSsB xs)) ∧ Below w.heap.size w w' :=
  fitStmts_at _ xs (Nat.lt_succ_self _) w A cap hr hs

end Go.Proofs.Ytcamegfnhbbaeaa
