/- Two rows of the same statements are the same. -/
import Derived.Test.YtcamegfnhbbaeaaM23
import Derived.Deep.RegionHeld3
import Derived.Laws.CopyOwn
namespace Go.Proofs.Ytcamegfnhbbaeaa
open Go.RowKit
set_option linter.unusedVariables false
set_option linter.unusedSimpArgs false
attribute [local go_sem] ite_max ite_min vite_max vite_min ext_cell ext_frozen extS_cell extS_frozen

set_option maxRecDepth 100000 in
set_option maxHeartbeats 4000000 in
theorem sameStmts_any : ∀ (k : Nat) (xs : List Stm), SizeOf.sizeOf xs < k → ∀ (w : World) (A B : Option Addr) (ca cb : Nat) (ln : Bool), RowT w A xs ca → RowT w B xs cb → Calls Try.prog 34 #[.slice A xs.length ca, .slice B xs.length cb, .bool ln] w fun e w' => e = .returned (.bool true) ∧ Below w.heap.size w w' := by
  intro k
  induction k with
  | zero => intro xs h; omega
  | succ k ih =>
    intro xs hsz w A B ca cb ln hA hB
    have HIH := Lib.hid ih
    have HSZ := Lib.hid hsz
    have HA := Lib.hid hA
    have HB := Lib.hid hB
    have hla := hA.1
    have hca := hA.2.1
    have hlb := hB.1
    have hcb := hB.2.1
    obtain ⟨n, hn⟩ : ∃ n, xs.length = n := ⟨_, rfl⟩
    rw [hn] at hla hlb ⊢
    have HN := Lib.hid hn
    clear ih hA hB hn hsz
    go_enter Try.func34, Try.ntmps34
    go_wp2_with fail
    go_loopw [7] (fun vi wr => ∃ (i : Nat), i ≤ n ∧ vi = .int .i64 i ∧ Below w.heap.size w wr) (fun vi _ => n - (intOf vi).toNat)
    case atStart => exact ⟨0, by omega, rfl, Below.refl _ _⟩
    case round =>
      obtain ⟨i, hi, rfl, hbr⟩ := hrel
      by_cases hlt : i < n
      · obtain ⟨b1, o1, s, m1, rfl, hbl1, hx1, hs1⟩ := RowT.at (HA.out.below hbr) (i := i) (by rw [HN.out]; exact hlt)
        obtain ⟨b2, o2, s', m2, rfl, hbl2, hx2, hs2⟩ := RowT.at (HB.out.below hbr) (i := i) (by rw [HN.out]; exact hlt)
        obtain rfl : s = s' := by rw [hx1] at hx2; exact Option.some.inj hx2
        have hi0 : (0 : Int) ≤ (i : Int) ∧ (i : Int) < (n : Int) := by omega
        have HX := Lib.hid hx1
        have HS1 := Lib.hid hs1
        have HS2 := Lib.hid hs2
        have HBR := Lib.hid hbr
        have hz := hbr.size
        clear hx1 hx2 hs1 hs2 hbr
        go_upto_region 6 with (fail)
        refine wp_region_held_drew (S := fun w' => TwoR w' b1 (o1 + i * 19) (StmC s m1) b2 (o2 + i * 19) (StmC s m2)) (by kernel_rfl) (TwoR.below (w := wr) ⟨HS1.out.cell, HS2.out.cell⟩ (by (repeat' (first | (with_reducible exact Below.refl _ _) | (with_reducible assumption) | (with_reducible refine below_drewN ?_ _) | (with_reducible refine Below.drew ?_) | (with_reducible refine below_new ?_ (Nat.le_refl _) _) | (with_reducible refine Below.setCell ?_ ?_ _) | (with_reducible refine below_go ?_ (by assumption) (Nat.le_refl _)) | (simp; done) | (simp; omega) | omega)))) (fun hHeld => ?_)
        (refine takeH (i := 0) (v := ?_) rfl (by kernel_rfl) (by kernel_rfl) (by kernel_rfl) (fun _ _ _ h => h) (Or.inl ⟨by first | kernel_rfl | rfl, ?_⟩) (by assumption) ?_; rotate_left; focus (intro w' hSw; go_simp; try (with_reducible rfl)); (try simp only [Act.put, List.setIfInBounds_toArray, List.set_cons_zero, List.set_cons_succ]))
        (refine takeH (i := 1) (v := ?_) rfl (by kernel_rfl) (by kernel_rfl) (by kernel_rfl) (fun _ _ _ h => h) (Or.inl ⟨by first | kernel_rfl | rfl, ?_⟩) (by assumption) ?_; rotate_left; focus (intro w' hSw; go_simp; try (with_reducible rfl)); (try simp only [Act.put, List.setIfInBounds_toArray, List.set_cons_zero, List.set_cons_succ]))
        (refine takeH (i := 2) (v := ?_) rfl (by kernel_rfl) (by kernel_rfl) (by kernel_rfl) (fun _ _ _ h => h) (Or.inl ⟨by first | kernel_rfl | rfl, ?_⟩) (by assumption) ?_; rotate_left; focus (intro w' hSw; go_simp; try (with_reducible rfl)); (try simp only [Act.put, List.setIfInBounds_toArray, List.set_cons_zero, List.set_cons_succ]))
        (refine takeH (i := 3) rfl (by kernel_rfl) (by kernel_rfl) (by kernel_rfl) (fun _ _ _ h => h) (yieldsIf_load_mid (by first | kernel_rfl | rfl) 63 _ rfl b1 (o1 + i * 19) rfl (StmC s m1) _ (fun _ h => h.1) Try.underlying63 rfl stmt_size) (by assumption) ?_; (try simp only [Act.put, List.setIfInBounds_toArray, List.set_cons_zero, List.set_cons_succ]))
        (refine takeH (i := 4) (v := ?_) rfl (by kernel_rfl) (by kernel_rfl) (by kernel_rfl) (fun _ _ _ h => h) (Or.inl ⟨by first | kernel_rfl | rfl, ?_⟩) (by assumption) ?_; rotate_left; focus (intro w' hSw; go_simp; try (with_reducible rfl)); (try simp only [Act.put, List.setIfInBounds_toArray, List.set_cons_zero, List.set_cons_succ]))
        (refine takeH (i := 5) (v := ?_) rfl (by kernel_rfl) (by kernel_rfl) (by kernel_rfl) (fun _ _ _ h => h) (Or.inl ⟨by first | kernel_rfl | rfl, ?_⟩) (by assumption) ?_; rotate_left; focus (intro w' hSw; go_simp; try (with_reducible rfl)); (try simp only [Act.put, List.setIfInBounds_toArray, List.set_cons_zero, List.set_cons_succ]))
        (refine takeH (i := 6) (v := ?_) rfl (by kernel_rfl) (by kernel_rfl) (by kernel_rfl) (fun _ _ _ h => h) (Or.inl ⟨by first | kernel_rfl | rfl, ?_⟩) (by assumption) ?_; rotate_left; focus (intro w' hSw; go_simp; try (with_reducible rfl)); (try simp only [Act.put, List.setIfInBounds_toArray, List.set_cons_zero, List.set_cons_succ]))
        (refine takeH (i := 7) rfl (by kernel_rfl) (by kernel_rfl) (by kernel_rfl) (fun _ _ _ h => h) (yieldsIf_load_mid (by first | kernel_rfl | rfl) 63 _ rfl b2 (o2 + i * 19) rfl (StmC s m2) _ (fun _ h => h.2) Try.underlying63 rfl stmt_size) (by assumption) ?_; (try simp only [Act.put, List.setIfInBounds_toArray, List.set_cons_zero, List.set_cons_succ]))
        refine wpAnyH_ready (rs := [8, 9]) (by kernel_rfl) (by simp) (AllReadyH.cons rfl (fun K hK => ?_) (AllReadyH.cons rfl (fun K hK => ?_) AllReadyH.nil))
        · go_simp
          refine hK.out _ _ ?_ (fun hHeld2 => ?_)
          · exact TwoR.below (w := wr) ⟨HS1.out.cell, HS2.out.cell⟩ (by (repeat' (first | (with_reducible exact Below.refl _ _) | (with_reducible assumption) | (with_reducible refine below_drewN ?_ _) | (with_reducible refine Below.drew ?_) | (with_reducible refine below_new ?_ (Nat.le_refl _) _) | (with_reducible refine Below.setCell ?_ ?_ _) | (with_reducible refine below_go ?_ (by assumption) (Nat.le_refl _)) | (simp; done) | (simp; omega) | omega)))
          clear hK K hHeld
          have hHeld := hHeld2
          clear hHeld2
          (try simp only [Act.put, List.setIfInBounds_toArray, List.set_cons_zero, List.set_cons_succ])
          refine oneH (i := 9) (by kernel_rfl) rfl (fun K hK => ?_)
          go_simp
          refine hK.out _ _ ?_ (fun hHeld2 => ?_)
          · exact TwoR.below (w := wr) ⟨HS1.out.cell, HS2.out.cell⟩ (by (repeat' (first | (with_reducible exact Below.refl _ _) | (with_reducible assumption) | (with_reducible refine below_drewN ?_ _) | (with_reducible refine Below.drew ?_) | (with_reducible refine below_new ?_ (Nat.le_refl _) _) | (with_reducible refine Below.setCell ?_ ?_ _) | (with_reducible refine below_go ?_ (by assumption) (Nat.le_refl _)) | (simp; done) | (simp; omega) | omega)))
          clear hK K hHeld hHeld2
          (try simp only [Act.put, List.setIfInBounds_toArray, List.set_cons_zero, List.set_cons_succ])
          obtain ⟨W, hW⟩ : ∃ W, ((wr.alloc (.cells stm0 63)).alloc (.cells stm0 63)).drew = W := ⟨_, rfl⟩
          rw [show ((wr.alloc (.cells #[.int .i64 0, .string ⟨#[]⟩, .int .i64 0, .int .i64 0, .string ⟨#[]⟩, .string ⟨#[]⟩, .slice none 0 0, .int .i64 0, .int .i64 0, .int .i64 0, .string ⟨#[]⟩, .string ⟨#[]⟩, .slice none 0 0, .int .i64 0, .slice none 0 0, .slice none 0 0, .slice none 0 0, .slice none 0 0, .int .i64 0] 63)).alloc (.cells #[.int .i64 0, .string ⟨#[]⟩, .int .i64 0, .int .i64 0, .string ⟨#[]⟩, .string ⟨#[]⟩, .slice none 0 0, .int .i64 0, .int .i64 0, .int .i64 0, .string ⟨#[]⟩, .string ⟨#[]⟩, .slice none 0 0, .int .i64 0, .slice none 0 0, .slice none 0 0, .slice none 0 0, .slice none 0 0, .int .i64 0] 63)).drew = W from hW]
          obtain ⟨H, hH⟩ : ∃ H, wr.heap.size = H := ⟨_, rfl⟩
          have hBW : Below wr.heap.size wr W := by rw [← hW]; (repeat' (first | (with_reducible exact Below.refl _ _) | (with_reducible assumption) | (with_reducible refine below_drewN ?_ _) | (with_reducible refine Below.drew ?_) | (with_reducible refine below_new ?_ (Nat.le_refl _) _) | (with_reducible refine Below.setCell ?_ ?_ _) | (with_reducible refine below_go ?_ (by assumption) (Nat.le_refl _)) | (simp; done) | (simp; omega) | omega))
          have h0 : W.heap[H]? = some (.cells stm0 63) := by rw [← hW, ← hH]; exact (heap_alloc_old _ _ (by simp)).trans (heap_alloc_new _ _)
          have h1 : W.heap[H + 1]? = some (.cells stm0 63) := by rw [← hW, ← hH]; have := heap_alloc_new (wr.alloc (.cells stm0 63)) (.cells stm0 63); rw [World.size_alloc] at this; exact this
          have hsW : W.heap.size = H + 2 := by rw [← hW, ← hH]; simp [World.drew]
          rw [hH]
          have hHle : wr.heap.size ≤ H := by omega
          have hHge : H ≤ wr.heap.size := by omega
          clear hW hH
          have hB5 : Below wr.heap.size wr (W.setRow (H) (StmC s m1).toArray) := below_setRow hBW (by omega) _
          have h9' : (W.setRow (H) (StmC s m1).toArray).heap[H + 1]? = some (.cells stm0 63) := (setRow_other _ _ _ _ (by omega)).trans h1
          obtain ⟨W5, hW5⟩ : ∃ W5, W.setRow (H) (StmC s m1).toArray = W5 := ⟨_, rfl⟩
          refine oneH (i := 10) (by kernel_rfl) rfl (fun K hK => ?_)
          rw [if_pos (by first | kernel_rfl | rfl)]
          refine wp_store_row 63 _ _ rfl (H) (StmC s m1).toArray rfl rfl 63 stm0 h0 stmt_size rfl (stmC_one s m1) ?_
          rw [hW5] at hB5 h9' ⊢
          refine hK.out _ _ (TwoR.below (w := wr) ⟨HS1.out.cell, HS2.out.cell⟩ hB5) (fun hHeld2 => ?_)
          clear hK K hHeld2
          have h8' : W5.heap[H]? = some (.cells (StmC s m1).toArray 63) := by rw [← hW5]; exact setRow_heap _ _ _ _ _ _ h0
          have hB6 : Below wr.heap.size wr (W5.setRow (H + 1) (StmC s m2).toArray) := below_setRow hB5 (by omega) _
          obtain ⟨W6, hW6⟩ : ∃ W6, W5.setRow (H + 1) (StmC s m2).toArray = W6 := ⟨_, rfl⟩
          refine oneH (i := 11) (by kernel_rfl) rfl (fun K hK => ?_)
          rw [if_pos (by first | kernel_rfl | rfl)]
          refine wp_store_row 63 _ _ rfl (H + 1) (StmC s m2).toArray rfl rfl 63 stm0 h9' stmt_size rfl (stmC_one s m2) ?_
          rw [hW6] at hB6 ⊢
          refine hK.out _ _ (TwoR.below (w := wr) ⟨HS1.out.cell, HS2.out.cell⟩ hB6) (fun hHeld2 => ?_)
          clear hK K hHeld2
          have h8'' : W6.heap[H]? = some (.cells (StmC s m1).toArray 63) := by rw [← hW6]; exact (setRow_other _ _ _ _ (by omega)).trans h8'
          have h9'' : W6.heap[H + 1]? = some (.cells (StmC s m2).toArray 63) := by rw [← hW6]; exact setRow_heap _ _ _ _ _ _ h9'
          have HV1 := Lib.hid (HS1.out.copy hB6 h8'')
          have HV2 := Lib.hid (HS2.out.copy hB6 h9'')
          have HBR6 := Lib.hid (HBR.out.trans (hB6.mono HBR.out.size))
          have hz6 := hB6.size
          have hP8 : H < W6.heap.size := HV1.out.lt
          have hP9 : H + 1 < W6.heap.size := HV2.out.lt
          clear hBW h0 h1 hsW hB5 h9' hW5 h8' hB6 hW6 h8'' h9'' HS1 HS2 HBR
          refine wpAnyH_done (by kernel_rfl) ?_ _
          (try simp only [Act.put, List.setIfInBounds_toArray, List.set_cons_zero, List.set_cons_succ])
          have d0 : W6.cell? ⟨H, 0, none⟩ = some (.int .i64 s.op) := HV1.out.at0 0 _ rfl
          have d1 : W6.cell? ⟨H, 1, none⟩ = some (.string s.name) := HV1.out.at0 1 _ rfl
          have d2 : W6.cell? ⟨H, 2, none⟩ = some (.int .i64 s.dst.op) := HV1.out.at0 2 _ rfl
          have d3 : W6.cell? ⟨H, 3, none⟩ = some (.int .i64 s.dst.n) := HV1.out.at0 3 _ rfl
          have d4 : W6.cell? ⟨H, 4, none⟩ = some (.string s.dst.name) := HV1.out.at0 4 _ rfl
          have d5 : W6.cell? ⟨H, 5, none⟩ = some (.string s.dst.field) := HV1.out.at0 5 _ rfl
          have d6 : W6.cell? ⟨H, 6, none⟩ = some (.slice m1.ta s.dst.sub.length m1.tk) := HV1.out.at0 6 _ rfl
          have d7 : W6.cell? ⟨H, 7, none⟩ = some (.int .i64 s.dst.line) := HV1.out.at0 7 _ rfl
          have d8 : W6.cell? ⟨H, 8, none⟩ = some (.int .i64 s.src.op) := HV1.out.at0 8 _ rfl
          have d9 : W6.cell? ⟨H, 9, none⟩ = some (.int .i64 s.src.n) := HV1.out.at0 9 _ rfl
          have d10 : W6.cell? ⟨H, 10, none⟩ = some (.string s.src.name) := HV1.out.at0 10 _ rfl
          have d11 : W6.cell? ⟨H, 11, none⟩ = some (.string s.src.field) := HV1.out.at0 11 _ rfl
          have d12 : W6.cell? ⟨H, 12, none⟩ = some (.slice m1.va s.src.sub.length m1.vk) := HV1.out.at0 12 _ rfl
          have d13 : W6.cell? ⟨H, 13, none⟩ = some (.int .i64 s.src.line) := HV1.out.at0 13 _ rfl
          have d14 : W6.cell? ⟨H, 14, none⟩ = some (.slice m1.ca s.conds.length m1.ck) := HV1.out.at0 14 _ rfl
          have d15 : W6.cell? ⟨H, 15, none⟩ = some (.slice m1.la s.labels.length m1.lk) := HV1.out.at0 15 _ rfl
          have d16 : W6.cell? ⟨H, 16, none⟩ = some (.slice m1.fa s.fields.length m1.fk) := HV1.out.at0 16 _ rfl
          have d17 : W6.cell? ⟨H, 17, none⟩ = some (.slice m1.ba s.blocks.length m1.bk) := HV1.out.at0 17 _ rfl
          have d18 : W6.cell? ⟨H, 18, none⟩ = some (.int .i64 s.line) := HV1.out.at0 18 _ rfl
          have e0 : W6.cell? ⟨H + 1, 0, none⟩ = some (.int .i64 s.op) := HV2.out.at0 0 _ rfl
          have e1 : W6.cell? ⟨H + 1, 1, none⟩ = some (.string s.name) := HV2.out.at0 1 _ rfl
          have e2 : W6.cell? ⟨H + 1, 2, none⟩ = some (.int .i64 s.dst.op) := HV2.out.at0 2 _ rfl
          have e3 : W6.cell? ⟨H + 1, 3, none⟩ = some (.int .i64 s.dst.n) := HV2.out.at0 3 _ rfl
          have e4 : W6.cell? ⟨H + 1, 4, none⟩ = some (.string s.dst.name) := HV2.out.at0 4 _ rfl
          have e5 : W6.cell? ⟨H + 1, 5, none⟩ = some (.string s.dst.field) := HV2.out.at0 5 _ rfl
          have e6 : W6.cell? ⟨H + 1, 6, none⟩ = some (.slice m2.ta s.dst.sub.length m2.tk) := HV2.out.at0 6 _ rfl
          have e7 : W6.cell? ⟨H + 1, 7, none⟩ = some (.int .i64 s.dst.line) := HV2.out.at0 7 _ rfl
          have e8 : W6.cell? ⟨H + 1, 8, none⟩ = some (.int .i64 s.src.op) := HV2.out.at0 8 _ rfl
          have e9 : W6.cell? ⟨H + 1, 9, none⟩ = some (.int .i64 s.src.n) := HV2.out.at0 9 _ rfl
          have e10 : W6.cell? ⟨H + 1, 10, none⟩ = some (.string s.src.name) := HV2.out.at0 10 _ rfl
          have e11 : W6.cell? ⟨H + 1, 11, none⟩ = some (.string s.src.field) := HV2.out.at0 11 _ rfl
          have e12 : W6.cell? ⟨H + 1, 12, none⟩ = some (.slice m2.va s.src.sub.length m2.vk) := HV2.out.at0 12 _ rfl
          have e13 : W6.cell? ⟨H + 1, 13, none⟩ = some (.int .i64 s.src.line) := HV2.out.at0 13 _ rfl
          have e14 : W6.cell? ⟨H + 1, 14, none⟩ = some (.slice m2.ca s.conds.length m2.ck) := HV2.out.at0 14 _ rfl
          have e15 : W6.cell? ⟨H + 1, 15, none⟩ = some (.slice m2.la s.labels.length m2.lk) := HV2.out.at0 15 _ rfl
          have e16 : W6.cell? ⟨H + 1, 16, none⟩ = some (.slice m2.fa s.fields.length m2.fk) := HV2.out.at0 16 _ rfl
          have e17 : W6.cell? ⟨H + 1, 17, none⟩ = some (.slice m2.ba s.blocks.length m2.bk) := HV2.out.at0 17 _ rfl
          have e18 : W6.cell? ⟨H + 1, 18, none⟩ = some (.int .i64 s.line) := HV2.out.at0 18 _ rfl
          obtain ⟨nl, hnl⟩ : ∃ n, s.labels.length = n := ⟨_, rfl⟩
          obtain ⟨nf, hnf⟩ : ∃ n, s.fields.length = n := ⟨_, rfl⟩
          obtain ⟨nb, hnb⟩ : ∃ n, s.blocks.length = n := ⟨_, rfl⟩
          rw [hnl] at d15 e15
          rw [hnf] at d16 e16
          rw [hnb] at d17 e17
          have HNL := Lib.hid hnl
          have HNF := Lib.hid hnf
          have HNB := Lib.hid hnb
          clear hnl hnf hnb
          have hll := HV1.out.labels.1
          have hll2 := HV2.out.labels.1
          have hfl := HV1.out.fields.1
          have hfl2 := HV2.out.fields.1
          have hbl := HV1.out.blocks.1
          have hbl2 := HV2.out.blocks.1
          rw [HNL.out] at hll hll2
          rw [HNF.out] at hfl hfl2
          rw [HNB.out] at hbl hbl2
          have hcl1 := HV1.out.labels.2.1
          have hcl2 := HV2.out.labels.2.1
          have hcf1 := HV1.out.fields.2.1
          have hcf2 := HV2.out.fields.2.1
          have hcb1 := HV1.out.blocks.2.1
          have hcb2 := HV2.out.blocks.2.1
          cases ln
          all_goals
            go_upto_region 9 with (fail)
            clear d0 d1 d18 e0 e1 e18
            go_wp2_with fail
            refine (sameExprs_any _ [s.dst, s.src] (Nat.lt_succ_self _) _ _ _ _ _ _ ?r1 ?r2).mono ?_
            case r1 => exact rowE_two (w := (W6.alloc (.cells (ExC s.dst m1.ta m1.tk ++ ExC s.src m1.va m1.vk).toArray 39)).alloc (.cells (ExC s.dst m2.ta m2.tk ++ ExC s.src m2.va m2.vk).toArray 39)) ((heap_alloc_old _ _ (by simp)).trans (heap_alloc_new _ _)) (HV1.out.dst.keep (by (repeat' (first | (with_reducible exact Below.refl _ _) | (with_reducible assumption) | (with_reducible refine below_drewN ?_ _) | (with_reducible refine Below.drew ?_) | (with_reducible refine below_new ?_ (Nat.le_refl _) _) | (with_reducible refine Below.setCell ?_ ?_ _) | (with_reducible refine below_go ?_ (by assumption) (Nat.le_refl _)) | (simp; done) | (simp; omega) | omega)))) (HV1.out.src.keep (by (repeat' (first | (with_reducible exact Below.refl _ _) | (with_reducible assumption) | (with_reducible refine below_drewN ?_ _) | (with_reducible refine Below.drew ?_) | (with_reducible refine below_new ?_ (Nat.le_refl _) _) | (with_reducible refine Below.setCell ?_ ?_ _) | (with_reducible refine below_go ?_ (by assumption) (Nat.le_refl _)) | (simp; done) | (simp; omega) | omega))))
            case r2 => exact rowE_two (w := (W6.alloc (.cells (ExC s.dst m1.ta m1.tk ++ ExC s.src m1.va m1.vk).toArray 39)).alloc (.cells (ExC s.dst m2.ta m2.tk ++ ExC s.src m2.va m2.vk).toArray 39)) (by have := heap_alloc_new (W6.alloc (.cells (ExC s.dst m1.ta m1.tk ++ ExC s.src m1.va m1.vk).toArray 39)) (.cells (ExC s.dst m2.ta m2.tk ++ ExC s.src m2.va m2.vk).toArray 39); rw [World.size_alloc] at this; exact this) (HV2.out.dst.keep (by (repeat' (first | (with_reducible exact Below.refl _ _) | (with_reducible assumption) | (with_reducible refine below_drewN ?_ _) | (with_reducible refine Below.drew ?_) | (with_reducible refine below_new ?_ (Nat.le_refl _) _) | (with_reducible refine Below.setCell ?_ ?_ _) | (with_reducible refine below_go ?_ (by assumption) (Nat.le_refl _)) | (simp; done) | (simp; omega) | omega)))) (HV2.out.src.keep (by (repeat' (first | (with_reducible exact Below.refl _ _) | (with_reducible assumption) | (with_reducible refine below_drewN ?_ _) | (with_reducible refine Below.drew ?_) | (with_reducible refine below_new ?_ (Nat.le_refl _) _) | (with_reducible refine Below.setCell ?_ ?_ _) | (with_reducible refine below_go ?_ (by assumption) (Nat.le_refl _)) | (simp; done) | (simp; omega) | omega))))
            rintro e w7 ⟨rfl, hb7⟩
            have hB7 : Below W6.heap.size W6 w7 := by (repeat' (first | (with_reducible exact Below.refl _ _) | (with_reducible assumption) | (with_reducible refine below_drewN ?_ _) | (with_reducible refine Below.drew ?_) | (with_reducible refine below_new ?_ (Nat.le_refl _) _) | (with_reducible refine Below.setCell ?_ ?_ _) | (with_reducible refine below_go ?_ (by assumption) (Nat.le_refl _)) | (simp; done) | (simp; omega) | omega))
            have HB7 := Lib.hid hB7
            have hz7 := hB7.size
            have HV1a := Lib.hid (HV1.out.below hB7)
            have HV2a := Lib.hid (HV2.out.below hB7)
            have HBR7 := Lib.hid (HBR6.out.trans (hB7.mono HBR6.out.size))
            have hP8a : H < w7.heap.size := HV1a.out.lt
            have hP9a : H + 1 < w7.heap.size := HV2a.out.lt
            clear hb7 hB7 HB7 d2 d3 d4 d5 d6 d7 d8 d9 d10 d11 d12 d13 d14 d15 d16 d17 e2 e3 e4 e5 e6 e7 e8 e9 e10 e11 e12 e13 e14 e15 e16 e17
            have d14 : w7.cell? ⟨H, 14, none⟩ = some (.slice m1.ca s.conds.length m1.ck) := HV1a.out.at0 14 _ rfl
            have e14 : w7.cell? ⟨H + 1, 14, none⟩ = some (.slice m2.ca s.conds.length m2.ck) := HV2a.out.at0 14 _ rfl
            go_wp2_with fail
            refine (sameExprs_any _ s.conds (Nat.lt_succ_self _) _ _ _ _ _ _ HV1a.out.conds HV2a.out.conds).mono ?_
            rintro e w8 ⟨rfl, hb8⟩
            have hz8 := hb8.size
            have HW1 := Lib.hid (HV1a.out.below hb8)
            have HW2 := Lib.hid (HV2a.out.below hb8)
            have HBR8 := Lib.hid (HBR7.out.trans (hb8.mono HBR7.out.size))
            clear hb8 d14 e14 HV1 HV2 HV1a HV2a HBR6 HBR7 hP8 hP9 hP8a hP9a
            go_wp2_with fail
            go_loopw [10] (fun vi wr => ∃ (j : Nat), j ≤ nl ∧ vi = .int .i64 j ∧ Below w8.heap.size w8 wr) (fun vi _ => nl - (intOf vi).toNat)
            case atStart => exact ⟨0, by omega, rfl, Below.refl _ _⟩
            case round =>
              obtain ⟨j, hj, rfl, hbq⟩ := hrel
              have HX1 := Lib.hid (HW1.out.below hbq)
              have HX2 := Lib.hid (HW2.out.below hbq)
              have g8 : H < wr.heap.size := HX1.out.lt
              have g9 : H + 1 < wr.heap.size := HX2.out.lt
              have d15 : wr.cell? ⟨H, 15, none⟩ = some (.slice m1.la nl m1.lk) := by have := HX1.out.at0 15 _ rfl; rwa [HNL.out] at this
              have e15 : wr.cell? ⟨H + 1, 15, none⟩ = some (.slice m2.la nl m2.lk) := by have := HX2.out.at0 15 _ rfl; rwa [HNL.out] at this
              by_cases hlt2 : j < nl
              · have hj0 : (0 : Int) ≤ (j : Int) ∧ (j : Int) < (nl : Int) := by omega
                obtain ⟨q1, r1, z, c1, hA1, hq1, hz1, ⟨I1, l1, rfl, w1'⟩, hc1⟩ := RowOf.at HX1.out.labels (i := j) (by rw [HNL.out]; exact hlt2)
                obtain ⟨q2, r2, z', c2, hA2, hq2, hz2, ⟨I2, l2, rfl, w2'⟩, hc2⟩ := RowOf.at HX2.out.labels (i := j) (by rw [HNL.out]; exact hlt2)
                obtain rfl : z = z' := by rw [hz1] at hz2; exact Option.some.inj hz2
                have v1 : wr.cell? ⟨q1, r1 + j, none⟩ = some (.slice I1 z.length l1) := by have := hc1 0 (by omega); rwa [Nat.mul_one, Nat.add_zero] at this
                have v2 : wr.cell? ⟨q2, r2 + j, none⟩ = some (.slice I2 z.length l2) := by have := hc2 0 (by omega); rwa [Nat.mul_one, Nat.add_zero] at this
                have HR1 := Lib.hid w1'
                have HR2 := Lib.hid w2'
                clear w1' w2'
                rw [hA1] at d15
                rw [hA2] at e15
                have HQ := Lib.hid hbq
                clear hc1 hc2 hz1 hz2 hA1 hA2 hbq HX1 HX2 
                go_upto_region 14 with (fail)
                refine wp_region_ext (by kernel_rfl) (by kernel_rfl) ?_
                repeat (go_big_quiet_step (first | (go_at_call 60; exact ext_call (same16_any z _ _ _ _ _ (rowI_ext HR1.out _) (rowI_ext HR2.out _)))))
                refine wpQuiet_nil ?_
                intro v8 hv8
                replace hv8 := ext_below hv8
                have HV8 := Lib.hid (HQ.out.trans (hv8.mono HQ.out.size))
                clear hv8 d15 e15 v1 v2
                go_wp2
                go_roundw
                case rel => exact ⟨j + 1, by omega, by go_num, HV8.out⟩
                case measure => simp [intOf]; omega
              · obtain rfl : j = nl := by omega
                have HBR9 := Lib.hid (HBR8.out.trans (hbq.mono HBR8.out.size))
                obtain ⟨w9, rfl⟩ : ∃ wo : World, wo = wr := ⟨_, rfl⟩
                have HW1o := HX1
                have HW2o := HX2
                have hzz := hbq.size
                clear hbq HW1 HW2 HX1 HX2 HBR8
                have HW1 := HW1o
                have HW2 := HW2o
                have HBR8 := HBR9
                clear HW1o HW2o HBR9
                have hzw : H ≤ w9.heap.size := by omega
                go_wp2_with fail
                clear d15 e15
                go_loopw [11] (fun vi wr => ∃ (j : Nat), j ≤ nf ∧ vi = .int .i64 j ∧ Below w9.heap.size w9 wr) (fun vi _ => nf - (intOf vi).toNat)
                case atStart => exact ⟨0, by omega, rfl, Below.refl _ _⟩
                case round =>
                  obtain ⟨j, hj, rfl, hbq⟩ := hrel
                  have HX1 := Lib.hid (HW1.out.below hbq)
                  have HX2 := Lib.hid (HW2.out.below hbq)
                  have g8 : H < wr.heap.size := HX1.out.lt
                  have g9 : H + 1 < wr.heap.size := HX2.out.lt
                  have d16 : wr.cell? ⟨H, 16, none⟩ = some (.slice m1.fa nf m1.fk) := by have := HX1.out.at0 16 _ rfl; rwa [HNF.out] at this
                  have e16 : wr.cell? ⟨H + 1, 16, none⟩ = some (.slice m2.fa nf m2.fk) := by have := HX2.out.at0 16 _ rfl; rwa [HNF.out] at this
                  by_cases hlt2 : j < nf
                  · have hj0 : (0 : Int) ≤ (j : Int) ∧ (j : Int) < (nf : Int) := by omega
                    obtain ⟨q1, r1, z, c1, hA1, hq1, hz1, rfl, hc1⟩ := RowOf.at HX1.out.fields (i := j) (by rw [HNF.out]; exact hlt2)
                    obtain ⟨q2, r2, z', c2, hA2, hq2, hz2, rfl, hc2⟩ := RowOf.at HX2.out.fields (i := j) (by rw [HNF.out]; exact hlt2)
                    obtain rfl : z = z' := by rw [hz1] at hz2; exact Option.some.inj hz2
                    have v1 : wr.cell? ⟨q1, r1 + j, none⟩ = some (.string z) := by have := hc1 0 (by omega); rwa [Nat.mul_one, Nat.add_zero] at this
                    have v2 : wr.cell? ⟨q2, r2 + j, none⟩ = some (.string z) := by have := hc2 0 (by omega); rwa [Nat.mul_one, Nat.add_zero] at this
                    rw [hA1] at d16
                    rw [hA2] at e16
                    have HQ := Lib.hid hbq
                    clear hc1 hc2 hz1 hz2 hA1 hA2 hbq HX1 HX2 
                    go_upto_region 19 with (fail)
                    refine wp_region_ext (by kernel_rfl) (by kernel_rfl) ?_
                    repeat (go_big_quiet_step (fail))
                    refine wpQuiet_nil ?_
                    intro v8 hv8
                    replace hv8 := ext_below hv8
                    have HV8 := Lib.hid (HQ.out.trans (hv8.mono HQ.out.size))
                    clear hv8 d16 e16 v1 v2
                    go_wp2
                    go_roundw
                    case rel => exact ⟨j + 1, by omega, by go_num, HV8.out⟩
                    case measure => simp [intOf]; omega
                  · obtain rfl : j = nf := by omega
                    have HBR9 := Lib.hid (HBR8.out.trans (hbq.mono HBR8.out.size))
                    obtain ⟨w10, rfl⟩ : ∃ wo : World, wo = wr := ⟨_, rfl⟩
                    have HW1o := HX1
                    have HW2o := HX2
                    have hzz := hbq.size
                    clear hbq HW1 HW2 HX1 HX2 HBR8
                    have HW1 := HW1o
                    have HW2 := HW2o
                    have HBR8 := HBR9
                    clear HW1o HW2o HBR9
                    have hzw : H ≤ w10.heap.size := by omega
                    go_wp2_with fail
                    clear d16 e16
                    go_loopw [12] (fun vi wr => ∃ (j : Nat), j ≤ nb ∧ vi = .int .i64 j ∧ Below w10.heap.size w10 wr) (fun vi _ => nb - (intOf vi).toNat)
                    case atStart => exact ⟨0, by omega, rfl, Below.refl _ _⟩
                    case round =>
                      obtain ⟨j, hj, rfl, hbq⟩ := hrel
                      have HX1 := Lib.hid (HW1.out.below hbq)
                      have HX2 := Lib.hid (HW2.out.below hbq)
                      have g8 : H < wr.heap.size := HX1.out.lt
                      have g9 : H + 1 < wr.heap.size := HX2.out.lt
                      have d17 : wr.cell? ⟨H, 17, none⟩ = some (.slice m1.ba nb m1.bk) := by have := HX1.out.at0 17 _ rfl; rwa [HNB.out] at this
                      have e17 : wr.cell? ⟨H + 1, 17, none⟩ = some (.slice m2.ba nb m2.bk) := by have := HX2.out.at0 17 _ rfl; rwa [HNB.out] at this
                      by_cases hlt2 : j < nb
                      · have hj0 : (0 : Int) ≤ (j : Int) ∧ (j : Int) < (nb : Int) := by omega
                        obtain ⟨q1, r1, z, c1, hA1, hq1, hz1, ⟨I1, l1, rfl, w1'⟩, hc1⟩ := RowOf.at HX1.out.blocks (i := j) (by rw [HNB.out]; exact hlt2)
                        obtain ⟨q2, r2, z', c2, hA2, hq2, hz2, ⟨I2, l2, rfl, w2'⟩, hc2⟩ := RowOf.at HX2.out.blocks (i := j) (by rw [HNB.out]; exact hlt2)
                        obtain rfl : z = z' := by rw [hz1] at hz2; exact Option.some.inj hz2
                        have v1 : wr.cell? ⟨q1, r1 + j, none⟩ = some (.slice I1 z.length l1) := by have := hc1 0 (by omega); rwa [Nat.mul_one, Nat.add_zero] at this
                        have v2 : wr.cell? ⟨q2, r2 + j, none⟩ = some (.slice I2 z.length l2) := by have := hc2 0 (by omega); rwa [Nat.mul_one, Nat.add_zero] at this
                        have HR1 := Lib.hid w1'
                        have HR2 := Lib.hid w2'
                        have hsz1 := block_lt HX.out hz1
                        have hsz2 := HSZ.out
                        have HSL : Hid (SizeOf.sizeOf z < k) := Lib.hid (by omega)
                        clear w1' w2' hsz1 hsz2
                        rw [hA1] at d17
                        rw [hA2] at e17
                        have HQ := Lib.hid hbq
                        clear hc1 hc2 hz1 hz2 hA1 hA2 hbq HX1 HX2 
                        go_upto_region 24 with (fail)
                        refine wp_region_ext (by kernel_rfl) (by kernel_rfl) ?_
                        repeat (go_big_quiet_step (first | (go_at_call 34; exact ext_call (HIH.out z HSL.out _ _ _ _ _ _ (rowT_ext HR1.out _) (rowT_ext HR2.out _)))))
                        refine wpQuiet_nil ?_
                        intro v8 hv8
                        replace hv8 := ext_below hv8
                        have HV8 := Lib.hid (HQ.out.trans (hv8.mono HQ.out.size))
                        clear hv8 d17 e17 v1 v2
                        go_wp2
                        go_roundw
                        case rel => exact ⟨j + 1, by omega, by go_num, HV8.out⟩
                        case measure => simp [intOf]; omega
                      · obtain rfl : j = nb := by omega
                        have HEND := Lib.hid (HBR8.out.trans (hbq.mono HBR8.out.size))
                        clear hbq HX1 HX2
                        go_wp2
                        go_roundw
                        case rel => exact ⟨i + 1, by omega, by go_num, HEND.out⟩
                        case measure => simp [intOf]; omega
        · go_simp
          refine hK.out _ _ ?_ (fun hHeld2 => ?_)
          · exact TwoR.below (w := wr) ⟨HS1.out.cell, HS2.out.cell⟩ (by (repeat' (first | (with_reducible exact Below.refl _ _) | (with_reducible assumption) | (with_reducible refine below_drewN ?_ _) | (with_reducible refine Below.drew ?_) | (with_reducible refine below_new ?_ (Nat.le_refl _) _) | (with_reducible refine Below.setCell ?_ ?_ _) | (with_reducible refine below_go ?_ (by assumption) (Nat.le_refl _)) | (simp; done) | (simp; omega) | omega)))
          clear hK K hHeld
          have hHeld := hHeld2
          clear hHeld2
          (try simp only [Act.put, List.setIfInBounds_toArray, List.set_cons_zero, List.set_cons_succ])
          refine oneH (i := 8) (by kernel_rfl) rfl (fun K hK => ?_)
          go_simp
          refine hK.out _ _ ?_ (fun hHeld2 => ?_)
          · exact TwoR.below (w := wr) ⟨HS1.out.cell, HS2.out.cell⟩ (by (repeat' (first | (with_reducible exact Below.refl _ _) | (with_reducible assumption) | (with_reducible refine below_drewN ?_ _) | (with_reducible refine Below.drew ?_) | (with_reducible refine below_new ?_ (Nat.le_refl _) _) | (with_reducible refine Below.setCell ?_ ?_ _) | (with_reducible refine below_go ?_ (by assumption) (Nat.le_refl _)) | (simp; done) | (simp; omega) | omega)))
          clear hK K hHeld hHeld2
          (try simp only [Act.put, List.setIfInBounds_toArray, List.set_cons_zero, List.set_cons_succ])
          obtain ⟨W, hW⟩ : ∃ W, ((wr.alloc (.cells stm0 63)).alloc (.cells stm0 63)).drew = W := ⟨_, rfl⟩
          rw [show ((wr.alloc (.cells #[.int .i64 0, .string ⟨#[]⟩, .int .i64 0, .int .i64 0, .string ⟨#[]⟩, .string ⟨#[]⟩, .slice none 0 0, .int .i64 0, .int .i64 0, .int .i64 0, .string ⟨#[]⟩, .string ⟨#[]⟩, .slice none 0 0, .int .i64 0, .slice none 0 0, .slice none 0 0, .slice none 0 0, .slice none 0 0, .int .i64 0] 63)).alloc (.cells #[.int .i64 0, .string ⟨#[]⟩, .int .i64 0, .int .i64 0, .string ⟨#[]⟩, .string ⟨#[]⟩, .slice none 0 0, .int .i64 0, .int .i64 0, .int .i64 0, .string ⟨#[]⟩, .string ⟨#[]⟩, .slice none 0 0, .int .i64 0, .slice none 0 0, .slice none 0 0, .slice none 0 0, .slice none 0 0, .int .i64 0] 63)).drew = W from hW]
          obtain ⟨H, hH⟩ : ∃ H, wr.heap.size = H := ⟨_, rfl⟩
          have hBW : Below wr.heap.size wr W := by rw [← hW]; (repeat' (first | (with_reducible exact Below.refl _ _) | (with_reducible assumption) | (with_reducible refine below_drewN ?_ _) | (with_reducible refine Below.drew ?_) | (with_reducible refine below_new ?_ (Nat.le_refl _) _) | (with_reducible refine Below.setCell ?_ ?_ _) | (with_reducible refine below_go ?_ (by assumption) (Nat.le_refl _)) | (simp; done) | (simp; omega) | omega))
          have h0 : W.heap[H]? = some (.cells stm0 63) := by rw [← hW, ← hH]; exact (heap_alloc_old _ _ (by simp)).trans (heap_alloc_new _ _)
          have h1 : W.heap[H + 1]? = some (.cells stm0 63) := by rw [← hW, ← hH]; have := heap_alloc_new (wr.alloc (.cells stm0 63)) (.cells stm0 63); rw [World.size_alloc] at this; exact this
          have hsW : W.heap.size = H + 2 := by rw [← hW, ← hH]; simp [World.drew]
          rw [hH]
          have hHle : wr.heap.size ≤ H := by omega
          have hHge : H ≤ wr.heap.size := by omega
          clear hW hH
          have hB5 : Below wr.heap.size wr (W.setRow (H + 1) (StmC s m1).toArray) := below_setRow hBW (by omega) _
          have h9' : (W.setRow (H + 1) (StmC s m1).toArray).heap[H]? = some (.cells stm0 63) := (setRow_other _ _ _ _ (by omega)).trans h0
          obtain ⟨W5, hW5⟩ : ∃ W5, W.setRow (H + 1) (StmC s m1).toArray = W5 := ⟨_, rfl⟩
          refine oneH (i := 10) (by kernel_rfl) rfl (fun K hK => ?_)
          rw [if_pos (by first | kernel_rfl | rfl)]
          refine wp_store_row 63 _ _ rfl (H + 1) (StmC s m1).toArray rfl rfl 63 stm0 h1 stmt_size rfl (stmC_one s m1) ?_
          rw [hW5] at hB5 h9' ⊢
          refine hK.out _ _ (TwoR.below (w := wr) ⟨HS1.out.cell, HS2.out.cell⟩ hB5) (fun hHeld2 => ?_)
          clear hK K hHeld2
          have h8' : W5.heap[H + 1]? = some (.cells (StmC s m1).toArray 63) := by rw [← hW5]; exact setRow_heap _ _ _ _ _ _ h1
          have hB6 : Below wr.heap.size wr (W5.setRow (H) (StmC s m2).toArray) := below_setRow hB5 (by omega) _
          obtain ⟨W6, hW6⟩ : ∃ W6, W5.setRow (H) (StmC s m2).toArray = W6 := ⟨_, rfl⟩
          refine oneH (i := 11) (by kernel_rfl) rfl (fun K hK => ?_)
          rw [if_pos (by first | kernel_rfl | rfl)]
          refine wp_store_row 63 _ _ rfl (H) (StmC s m2).toArray rfl rfl 63 stm0 h9' stmt_size rfl (stmC_one s m2) ?_
          rw [hW6] at hB6 ⊢
          refine hK.out _ _ (TwoR.below (w := wr) ⟨HS1.out.cell, HS2.out.cell⟩ hB6) (fun hHeld2 => ?_)
          clear hK K hHeld2
          have h8'' : W6.heap[H + 1]? = some (.cells (StmC s m1).toArray 63) := by rw [← hW6]; exact (setRow_other _ _ _ _ (by omega)).trans h8'
          have h9'' : W6.heap[H]? = some (.cells (StmC s m2).toArray 63) := by rw [← hW6]; exact setRow_heap _ _ _ _ _ _ h9'
          have HV1 := Lib.hid (HS1.out.copy hB6 h8'')
          have HV2 := Lib.hid (HS2.out.copy hB6 h9'')
          have HBR6 := Lib.hid (HBR.out.trans (hB6.mono HBR.out.size))
          have hz6 := hB6.size
          have hP8 : H + 1 < W6.heap.size := HV1.out.lt
          have hP9 : H < W6.heap.size := HV2.out.lt
          clear hBW h0 h1 hsW hB5 h9' hW5 h8' hB6 hW6 h8'' h9'' HS1 HS2 HBR
          refine wpAnyH_done (by kernel_rfl) ?_ _
          (try simp only [Act.put, List.setIfInBounds_toArray, List.set_cons_zero, List.set_cons_succ])
          have d0 : W6.cell? ⟨H + 1, 0, none⟩ = some (.int .i64 s.op) := HV1.out.at0 0 _ rfl
          have d1 : W6.cell? ⟨H + 1, 1, none⟩ = some (.string s.name) := HV1.out.at0 1 _ rfl
          have d2 : W6.cell? ⟨H + 1, 2, none⟩ = some (.int .i64 s.dst.op) := HV1.out.at0 2 _ rfl
          have d3 : W6.cell? ⟨H + 1, 3, none⟩ = some (.int .i64 s.dst.n) := HV1.out.at0 3 _ rfl
          have d4 : W6.cell? ⟨H + 1, 4, none⟩ = some (.string s.dst.name) := HV1.out.at0 4 _ rfl
          have d5 : W6.cell? ⟨H + 1, 5, none⟩ = some (.string s.dst.field) := HV1.out.at0 5 _ rfl
          have d6 : W6.cell? ⟨H + 1, 6, none⟩ = some (.slice m1.ta s.dst.sub.length m1.tk) := HV1.out.at0 6 _ rfl
          have d7 : W6.cell? ⟨H + 1, 7, none⟩ = some (.int .i64 s.dst.line) := HV1.out.at0 7 _ rfl
          have d8 : W6.cell? ⟨H + 1, 8, none⟩ = some (.int .i64 s.src.op) := HV1.out.at0 8 _ rfl
          have d9 : W6.cell? ⟨H + 1, 9, none⟩ = some (.int .i64 s.src.n) := HV1.out.at0 9 _ rfl
          have d10 : W6.cell? ⟨H + 1, 10, none⟩ = some (.string s.src.name) := HV1.out.at0 10 _ rfl
          have d11 : W6.cell? ⟨H + 1, 11, none⟩ = some (.string s.src.field) := HV1.out.at0 11 _ rfl
          have d12 : W6.cell? ⟨H + 1, 12, none⟩ = some (.slice m1.va s.src.sub.length m1.vk) := HV1.out.at0 12 _ rfl
          have d13 : W6.cell? ⟨H + 1, 13, none⟩ = some (.int .i64 s.src.line) := HV1.out.at0 13 _ rfl
          have d14 : W6.cell? ⟨H + 1, 14, none⟩ = some (.slice m1.ca s.conds.length m1.ck) := HV1.out.at0 14 _ rfl
          have d15 : W6.cell? ⟨H + 1, 15, none⟩ = some (.slice m1.la s.labels.length m1.lk) := HV1.out.at0 15 _ rfl
          have d16 : W6.cell? ⟨H + 1, 16, none⟩ = some (.slice m1.fa s.fields.length m1.fk) := HV1.out.at0 16 _ rfl
          have d17 : W6.cell? ⟨H + 1, 17, none⟩ = some (.slice m1.ba s.blocks.length m1.bk) := HV1.out.at0 17 _ rfl
          have d18 : W6.cell? ⟨H + 1, 18, none⟩ = some (.int .i64 s.line) := HV1.out.at0 18 _ rfl
          have e0 : W6.cell? ⟨H, 0, none⟩ = some (.int .i64 s.op) := HV2.out.at0 0 _ rfl
          have e1 : W6.cell? ⟨H, 1, none⟩ = some (.string s.name) := HV2.out.at0 1 _ rfl
          have e2 : W6.cell? ⟨H, 2, none⟩ = some (.int .i64 s.dst.op) := HV2.out.at0 2 _ rfl
          have e3 : W6.cell? ⟨H, 3, none⟩ = some (.int .i64 s.dst.n) := HV2.out.at0 3 _ rfl
          have e4 : W6.cell? ⟨H, 4, none⟩ = some (.string s.dst.name) := HV2.out.at0 4 _ rfl
          have e5 : W6.cell? ⟨H, 5, none⟩ = some (.string s.dst.field) := HV2.out.at0 5 _ rfl
          have e6 : W6.cell? ⟨H, 6, none⟩ = some (.slice m2.ta s.dst.sub.length m2.tk) := HV2.out.at0 6 _ rfl
          have e7 : W6.cell? ⟨H, 7, none⟩ = some (.int .i64 s.dst.line) := HV2.out.at0 7 _ rfl
          have e8 : W6.cell? ⟨H, 8, none⟩ = some (.int .i64 s.src.op) := HV2.out.at0 8 _ rfl
          have e9 : W6.cell? ⟨H, 9, none⟩ = some (.int .i64 s.src.n) := HV2.out.at0 9 _ rfl
          have e10 : W6.cell? ⟨H, 10, none⟩ = some (.string s.src.name) := HV2.out.at0 10 _ rfl
          have e11 : W6.cell? ⟨H, 11, none⟩ = some (.string s.src.field) := HV2.out.at0 11 _ rfl
          have e12 : W6.cell? ⟨H, 12, none⟩ = some (.slice m2.va s.src.sub.length m2.vk) := HV2.out.at0 12 _ rfl
          have e13 : W6.cell? ⟨H, 13, none⟩ = some (.int .i64 s.src.line) := HV2.out.at0 13 _ rfl
          have e14 : W6.cell? ⟨H, 14, none⟩ = some (.slice m2.ca s.conds.length m2.ck) := HV2.out.at0 14 _ rfl
          have e15 : W6.cell? ⟨H, 15, none⟩ = some (.slice m2.la s.labels.length m2.lk) := HV2.out.at0 15 _ rfl
          have e16 : W6.cell? ⟨H, 16, none⟩ = some (.slice m2.fa s.fields.length m2.fk) := HV2.out.at0 16 _ rfl
          have e17 : W6.cell? ⟨H, 17, none⟩ = some (.slice m2.ba s.blocks.length m2.bk) := HV2.out.at0 17 _ rfl
          have e18 : W6.cell? ⟨H, 18, none⟩ = some (.int .i64 s.line) := HV2.out.at0 18 _ rfl
          obtain ⟨nl, hnl⟩ : ∃ n, s.labels.length = n := ⟨_, rfl⟩
          obtain ⟨nf, hnf⟩ : ∃ n, s.fields.length = n := ⟨_, rfl⟩
          obtain ⟨nb, hnb⟩ : ∃ n, s.blocks.length = n := ⟨_, rfl⟩
          rw [hnl] at d15 e15
          rw [hnf] at d16 e16
          rw [hnb] at d17 e17
          have HNL := Lib.hid hnl
          have HNF := Lib.hid hnf
          have HNB := Lib.hid hnb
          clear hnl hnf hnb
          have hll := HV1.out.labels.1
          have hll2 := HV2.out.labels.1
          have hfl := HV1.out.fields.1
          have hfl2 := HV2.out.fields.1
          have hbl := HV1.out.blocks.1
          have hbl2 := HV2.out.blocks.1
          rw [HNL.out] at hll hll2
          rw [HNF.out] at hfl hfl2
          rw [HNB.out] at hbl hbl2
          have hcl1 := HV1.out.labels.2.1
          have hcl2 := HV2.out.labels.2.1
          have hcf1 := HV1.out.fields.2.1
          have hcf2 := HV2.out.fields.2.1
          have hcb1 := HV1.out.blocks.2.1
          have hcb2 := HV2.out.blocks.2.1
          cases ln
          all_goals
            go_upto_region 9 with (fail)
            clear d0 d1 d18 e0 e1 e18
            go_wp2_with fail
            refine (sameExprs_any _ [s.dst, s.src] (Nat.lt_succ_self _) _ _ _ _ _ _ ?r1 ?r2).mono ?_
            case r1 => exact rowE_two (w := (W6.alloc (.cells (ExC s.dst m1.ta m1.tk ++ ExC s.src m1.va m1.vk).toArray 39)).alloc (.cells (ExC s.dst m2.ta m2.tk ++ ExC s.src m2.va m2.vk).toArray 39)) ((heap_alloc_old _ _ (by simp)).trans (heap_alloc_new _ _)) (HV1.out.dst.keep (by (repeat' (first | (with_reducible exact Below.refl _ _) | (with_reducible assumption) | (with_reducible refine below_drewN ?_ _) | (with_reducible refine Below.drew ?_) | (with_reducible refine below_new ?_ (Nat.le_refl _) _) | (with_reducible refine Below.setCell ?_ ?_ _) | (with_reducible refine below_go ?_ (by assumption) (Nat.le_refl _)) | (simp; done) | (simp; omega) | omega)))) (HV1.out.src.keep (by (repeat' (first | (with_reducible exact Below.refl _ _) | (with_reducible assumption) | (with_reducible refine below_drewN ?_ _) | (with_reducible refine Below.drew ?_) | (with_reducible refine below_new ?_ (Nat.le_refl _) _) | (with_reducible refine Below.setCell ?_ ?_ _) | (with_reducible refine below_go ?_ (by assumption) (Nat.le_refl _)) | (simp; done) | (simp; omega) | omega))))
            case r2 => exact rowE_two (w := (W6.alloc (.cells (ExC s.dst m1.ta m1.tk ++ ExC s.src m1.va m1.vk).toArray 39)).alloc (.cells (ExC s.dst m2.ta m2.tk ++ ExC s.src m2.va m2.vk).toArray 39)) (by have := heap_alloc_new (W6.alloc (.cells (ExC s.dst m1.ta m1.tk ++ ExC s.src m1.va m1.vk).toArray 39)) (.cells (ExC s.dst m2.ta m2.tk ++ ExC s.src m2.va m2.vk).toArray 39); rw [World.size_alloc] at this; exact this) (HV2.out.dst.keep (by (repeat' (first | (with_reducible exact Below.refl _ _) | (with_reducible assumption) | (with_reducible refine below_drewN ?_ _) | (with_reducible refine Below.drew ?_) | (with_reducible refine below_new ?_ (Nat.le_refl _) _) | (with_reducible refine Below.setCell ?_ ?_ _) | (with_reducible refine below_go ?_ (by assumption) (Nat.le_refl _)) | (simp; done) | (simp; omega) | omega)))) (HV2.out.src.keep (by (repeat' (first | (with_reducible exact Below.refl _ _) | (with_reducible assumption) | (with_reducible refine below_drewN ?_ _) | (with_reducible refine Below.drew ?_) | (with_reducible refine below_new ?_ (Nat.le_refl _) _) | (with_reducible refine Below.setCell ?_ ?_ _) | (with_reducible refine below_go ?_ (by assumption) (Nat.le_refl _)) | (simp; done) | (simp; omega) | omega))))
            rintro e w7 ⟨rfl, hb7⟩
            have hB7 : Below W6.heap.size W6 w7 := by (repeat' (first | (with_reducible exact Below.refl _ _) | (with_reducible assumption) | (with_reducible refine below_drewN ?_ _) | (with_reducible refine Below.drew ?_) | (with_reducible refine below_new ?_ (Nat.le_refl _) _) | (with_reducible refine Below.setCell ?_ ?_ _) | (with_reducible refine below_go ?_ (by assumption) (Nat.le_refl _)) | (simp; done) | (simp; omega) | omega))
            have HB7 := Lib.hid hB7
            have hz7 := hB7.size
            have HV1a := Lib.hid (HV1.out.below hB7)
            have HV2a := Lib.hid (HV2.out.below hB7)
            have HBR7 := Lib.hid (HBR6.out.trans (hB7.mono HBR6.out.size))
            have hP8a : H + 1 < w7.heap.size := HV1a.out.lt
            have hP9a : H < w7.heap.size := HV2a.out.lt
            clear hb7 hB7 HB7 d2 d3 d4 d5 d6 d7 d8 d9 d10 d11 d12 d13 d14 d15 d16 d17 e2 e3 e4 e5 e6 e7 e8 e9 e10 e11 e12 e13 e14 e15 e16 e17
            have d14 : w7.cell? ⟨H + 1, 14, none⟩ = some (.slice m1.ca s.conds.length m1.ck) := HV1a.out.at0 14 _ rfl
            have e14 : w7.cell? ⟨H, 14, none⟩ = some (.slice m2.ca s.conds.length m2.ck) := HV2a.out.at0 14 _ rfl
            go_wp2_with fail
            refine (sameExprs_any _ s.conds (Nat.lt_succ_self _) _ _ _ _ _ _ HV1a.out.conds HV2a.out.conds).mono ?_
            rintro e w8 ⟨rfl, hb8⟩
            have hz8 := hb8.size
            have HW1 := Lib.hid (HV1a.out.below hb8)
            have HW2 := Lib.hid (HV2a.out.below hb8)
            have HBR8 := Lib.hid (HBR7.out.trans (hb8.mono HBR7.out.size))
            clear hb8 d14 e14 HV1 HV2 HV1a HV2a HBR6 HBR7 hP8 hP9 hP8a hP9a
            go_wp2_with fail
            go_loopw [10] (fun vi wr => ∃ (j : Nat), j ≤ nl ∧ vi = .int .i64 j ∧ Below w8.heap.size w8 wr) (fun vi _ => nl - (intOf vi).toNat)
            case atStart => exact ⟨0, by omega, rfl, Below.refl _ _⟩
            case round =>
              obtain ⟨j, hj, rfl, hbq⟩ := hrel
              have HX1 := Lib.hid (HW1.out.below hbq)
              have HX2 := Lib.hid (HW2.out.below hbq)
              have g8 : H + 1 < wr.heap.size := HX1.out.lt
              have g9 : H < wr.heap.size := HX2.out.lt
              have d15 : wr.cell? ⟨H + 1, 15, none⟩ = some (.slice m1.la nl m1.lk) := by have := HX1.out.at0 15 _ rfl; rwa [HNL.out] at this
              have e15 : wr.cell? ⟨H, 15, none⟩ = some (.slice m2.la nl m2.lk) := by have := HX2.out.at0 15 _ rfl; rwa [HNL.out] at this
              by_cases hlt2 : j < nl
              · have hj0 : (0 : Int) ≤ (j : Int) ∧ (j : Int) < (nl : Int) := by omega
                obtain ⟨q1, r1, z, c1, hA1, hq1, hz1, ⟨I1, l1, rfl, w1'⟩, hc1⟩ := RowOf.at HX1.out.labels (i := j) (by rw [HNL.out]; exact hlt2)
                obtain ⟨q2, r2, z', c2, hA2, hq2, hz2, ⟨I2, l2, rfl, w2'⟩, hc2⟩ := RowOf.at HX2.out.labels (i := j) (by rw [HNL.out]; exact hlt2)
                obtain rfl : z = z' := by rw [hz1] at hz2; exact Option.some.inj hz2
                have v1 : wr.cell? ⟨q1, r1 + j, none⟩ = some (.slice I1 z.length l1) := by have := hc1 0 (by omega); rwa [Nat.mul_one, Nat.add_zero] at this
                have v2 : wr.cell? ⟨q2, r2 + j, none⟩ = some (.slice I2 z.length l2) := by have := hc2 0 (by omega); rwa [Nat.mul_one, Nat.add_zero] at this
                have HR1 := Lib.hid w1'
                have HR2 := Lib.hid w2'
                clear w1' w2'
                rw [hA1] at d15
                rw [hA2] at e15
                have HQ := Lib.hid hbq
                clear hc1 hc2 hz1 hz2 hA1 hA2 hbq HX1 HX2 
                go_upto_region 14 with (fail)
                refine wp_region_ext (by kernel_rfl) (by kernel_rfl) ?_
                repeat (go_big_quiet_step (first | (go_at_call 60; exact ext_call (same16_any z _ _ _ _ _ (rowI_ext HR1.out _) (rowI_ext HR2.out _)))))
                refine wpQuiet_nil ?_
                intro v8 hv8
                replace hv8 := ext_below hv8
                have HV8 := Lib.hid (HQ.out.trans (hv8.mono HQ.out.size))
                clear hv8 d15 e15 v1 v2
                go_wp2
                go_roundw
                case rel => exact ⟨j + 1, by omega, by go_num, HV8.out⟩
                case measure => simp [intOf]; omega
              · obtain rfl : j = nl := by omega
                have HBR9 := Lib.hid (HBR8.out.trans (hbq.mono HBR8.out.size))
                obtain ⟨w9, rfl⟩ : ∃ wo : World, wo = wr := ⟨_, rfl⟩
                have HW1o := HX1
                have HW2o := HX2
                have hzz := hbq.size
                clear hbq HW1 HW2 HX1 HX2 HBR8
                have HW1 := HW1o
                have HW2 := HW2o
                have HBR8 := HBR9
                clear HW1o HW2o HBR9
                have hzw : H ≤ w9.heap.size := by omega
                go_wp2_with fail
                clear d15 e15
                go_loopw [11] (fun vi wr => ∃ (j : Nat), j ≤ nf ∧ vi = .int .i64 j ∧ Below w9.heap.size w9 wr) (fun vi _ => nf - (intOf vi).toNat)
                case atStart => exact ⟨0, by omega, rfl, Below.refl _ _⟩
                case round =>
                  obtain ⟨j, hj, rfl, hbq⟩ := hrel
                  have HX1 := Lib.hid (HW1.out.below hbq)
                  have HX2 := Lib.hid (HW2.out.below hbq)
                  have g8 : H + 1 < wr.heap.size := HX1.out.lt
                  have g9 : H < wr.heap.size := HX2.out.lt
                  have d16 : wr.cell? ⟨H + 1, 16, none⟩ = some (.slice m1.fa nf m1.fk) := by have := HX1.out.at0 16 _ rfl; rwa [HNF.out] at this
                  have e16 : wr.cell? ⟨H, 16, none⟩ = some (.slice m2.fa nf m2.fk) := by have := HX2.out.at0 16 _ rfl; rwa [HNF.out] at this
                  by_cases hlt2 : j < nf
                  · have hj0 : (0 : Int) ≤ (j : Int) ∧ (j : Int) < (nf : Int) := by omega
                    obtain ⟨q1, r1, z, c1, hA1, hq1, hz1, rfl, hc1⟩ := RowOf.at HX1.out.fields (i := j) (by rw [HNF.out]; exact hlt2)
                    obtain ⟨q2, r2, z', c2, hA2, hq2, hz2, rfl, hc2⟩ := RowOf.at HX2.out.fields (i := j) (by rw [HNF.out]; exact hlt2)
                    obtain rfl : z = z' := by rw [hz1] at hz2; exact Option.some.inj hz2
                    have v1 : wr.cell? ⟨q1, r1 + j, none⟩ = some (.string z) := by have := hc1 0 (by omega); rwa [Nat.mul_one, Nat.add_zero] at this
                    have v2 : wr.cell? ⟨q2, r2 + j, none⟩ = some (.string z) := by have := hc2 0 (by omega); rwa [Nat.mul_one, Nat.add_zero] at this
                    rw [hA1] at d16
                    rw [hA2] at e16
                    have HQ := Lib.hid hbq
                    clear hc1 hc2 hz1 hz2 hA1 hA2 hbq HX1 HX2 
                    go_upto_region 19 with (fail)
                    refine wp_region_ext (by kernel_rfl) (by kernel_rfl) ?_
                    repeat (go_big_quiet_step (fail))
                    refine wpQuiet_nil ?_
                    intro v8 hv8
                    replace hv8 := ext_below hv8
                    have HV8 := Lib.hid (HQ.out.trans (hv8.mono HQ.out.size))
                    clear hv8 d16 e16 v1 v2
                    go_wp2
                    go_roundw
                    case rel => exact ⟨j + 1, by omega, by go_num, HV8.out⟩
                    case measure => simp [intOf]; omega
                  · obtain rfl : j = nf := by omega
                    have HBR9 := Lib.hid (HBR8.out.trans (hbq.mono HBR8.out.size))
                    obtain ⟨w10, rfl⟩ : ∃ wo : World, wo = wr := ⟨_, rfl⟩
                    have HW1o := HX1
                    have HW2o := HX2
                    have hzz := hbq.size
                    clear hbq HW1 HW2 HX1 HX2 HBR8
                    have HW1 := HW1o
                    have HW2 := HW2o
                    have HBR8 := HBR9
                    clear HW1o HW2o HBR9
                    have hzw : H ≤ w10.heap.size := by omega
                    go_wp2_with fail
                    clear d16 e16
                    go_loopw [12] (fun vi wr => ∃ (j : Nat), j ≤ nb ∧ vi = .int .i64 j ∧ Below w10.heap.size w10 wr) (fun vi _ => nb - (intOf vi).toNat)
                    case atStart => exact ⟨0, by omega, rfl, Below.refl _ _⟩
                    case round =>
                      obtain ⟨j, hj, rfl, hbq⟩ := hrel
                      have HX1 := Lib.hid (HW1.out.below hbq)
                      have HX2 := Lib.hid (HW2.out.below hbq)
                      have g8 : H + 1 < wr.heap.size := HX1.out.lt
                      have g9 : H < wr.heap.size := HX2.out.lt
                      have d17 : wr.cell? ⟨H + 1, 17, none⟩ = some (.slice m1.ba nb m1.bk) := by have := HX1.out.at0 17 _ rfl; rwa [HNB.out] at this
                      have e17 : wr.cell? ⟨H, 17, none⟩ = some (.slice m2.ba nb m2.bk) := by have := HX2.out.at0 17 _ rfl; rwa [HNB.out] at this
                      by_cases hlt2 : j < nb
                      · have hj0 : (0 : Int) ≤ (j : Int) ∧ (j : Int) < (nb : Int) := by omega
                        obtain ⟨q1, r1, z, c1, hA1, hq1, hz1, ⟨I1, l1, rfl, w1'⟩, hc1⟩ := RowOf.at HX1.out.blocks (i := j) (by rw [HNB.out]; exact hlt2)
                        obtain ⟨q2, r2, z', c2, hA2, hq2, hz2, ⟨I2, l2, rfl, w2'⟩, hc2⟩ := RowOf.at HX2.out.blocks (i := j) (by rw [HNB.out]; exact hlt2)
                        obtain rfl : z = z' := by rw [hz1] at hz2; exact Option.some.inj hz2
                        have v1 : wr.cell? ⟨q1, r1 + j, none⟩ = some (.slice I1 z.length l1) := by have := hc1 0 (by omega); rwa [Nat.mul_one, Nat.add_zero] at this
                        have v2 : wr.cell? ⟨q2, r2 + j, none⟩ = some (.slice I2 z.length l2) := by have := hc2 0 (by omega); rwa [Nat.mul_one, Nat.add_zero] at this
                        have HR1 := Lib.hid w1'
                        have HR2 := Lib.hid w2'
                        have hsz1 := block_lt HX.out hz1
                        have hsz2 := HSZ.out
                        have HSL : Hid (SizeOf.sizeOf z < k) := Lib.hid (by omega)
                        clear w1' w2' hsz1 hsz2
                        rw [hA1] at d17
                        rw [hA2] at e17
                        have HQ := Lib.hid hbq
                        clear hc1 hc2 hz1 hz2 hA1 hA2 hbq HX1 HX2 
                        go_upto_region 24 with (fail)
                        refine wp_region_ext (by kernel_rfl) (by kernel_rfl) ?_
                        repeat (go_big_quiet_step (first | (go_at_call 34; exact ext_call (HIH.out z HSL.out _ _ _ _ _ _ (rowT_ext HR1.out _) (rowT_ext HR2.out _)))))
                        refine wpQuiet_nil ?_
                        intro v8 hv8
                        replace hv8 := ext_below hv8
                        have HV8 := Lib.hid (HQ.out.trans (hv8.mono HQ.out.size))
                        clear hv8 d17 e17 v1 v2
                        go_wp2
                        go_roundw
                        case rel => exact ⟨j + 1, by omega, by go_num, HV8.out⟩
                        case measure => simp [intOf]; omega
                      · obtain rfl : j = nb := by omega
                        have HEND := Lib.hid (HBR8.out.trans (hbq.mono HBR8.out.size))
                        clear hbq HX1 HX2
                        go_wp2
                        go_roundw
                        case rel => exact ⟨i + 1, by omega, by go_num, HEND.out⟩
                        case measure => simp [intOf]; omega
      · obtain rfl : i = n := by omega
        go_wp2
        go_ret
        exact ⟨rfl, hbr⟩

end Go.Proofs.Ytcamegfnhbbaeaa
