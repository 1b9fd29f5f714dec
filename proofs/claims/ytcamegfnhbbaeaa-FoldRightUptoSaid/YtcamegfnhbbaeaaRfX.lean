/- Layer 21, the reference: an expression folded, any. PRINTED by wip/tool/mkrfx.py -/
import Derived.Test.YtcamegfnhbbaeaaM22
import Derived.Test.YtcamegfnhbbaeaaM25
import Derived.Deep.Cut
import Derived.Deep.CutRange
namespace Go.Proofs.Ytcamegfnhbbaeaa
open Go.RowKit
set_option linter.unusedVariables false
set_option linter.unusedSimpArgs false
attribute [local go_sem] ite_max ite_min vite_max vite_min ext_cell ext_frozen

theorem BuiltE.row3 {w : World} {base : Nat} {ys : List Ex} {v : Value} (h : BuiltE w base ys v) (hb : ys.length * 80 ≤ 140737488355328) : ∃ A cap, v = .slice A ys.length cap ∧ RowE (only w (news base)) A ys cap := h.row hb
set_option maxRecDepth 100000 in
set_option maxHeartbeats 16000000 in
theorem rexpr_at : ∀ (k : Nat) (x : Ex), SizeOf.sizeOf x < k → Neg1 x → ∀ (w : World) (A : Option Addr) (cap : Nat), ExAt w x (ExC x A cap) → Calls Try.prog 33 #[.agg (ExC x A cap).toArray] w fun e w' => ExRes w.heap.size (foldE opF x) e w' ∧ Below w.heap.size w w' := by
  intro k
  induction k with
  | zero => intro x h; omega
  | succ k ih =>
    intro x hsz hneg w A cap hat
    obtain ⟨i0, hi0, hz0, hz1, hz2⟩ := info_parts expr_info
    have HI := Lib.hid hi0
    have HZ0 := Lib.hid hz0
    have HZ1 := Lib.hid hz1
    have HZ2 := Lib.hid hz2
    clear hi0 hz0 hz1 hz2
    obtain ⟨op, n, nm, fd, sub, ln⟩ := x
    obtain ⟨hrow, ho, hn, hln⟩ : RowE w A sub cap ∧ I64 op ∧ I64 n ∧ I64 ln := by
      obtain ⟨A', k', he, hr, h1, h2, h3⟩ := hat.form
      simp only [ExC, List.cons.injEq, Value.slice.injEq, and_true, true_and] at he
      obtain ⟨rfl, rfl⟩ := he
      exact ⟨hr, h1, h2, h3⟩
    have HIH := Lib.hid (fun y (hy : y ∈ sub) => ih y (by
      have h1 := List.sizeOf_lt_of_mem hy
      simp at hsz
      omega) (hneg.subs y hy))
    have HNEG := Lib.hid hneg
    have HR := Lib.hid hrow
    have HO := Lib.hid ho
    have HNr := Lib.hid hn
    have HLN := Lib.hid hln
    have hsl := hrow.1
    have hsc := hrow.2.1
    have hsb := hrow.2.2.1
    show Calls Try.prog 33 #[.agg #[.int .i64 op, .int .i64 n, .string nm, .string fd, .slice A sub.length cap, .int .i64 ln]] w _
    obtain ⟨m, hm⟩ : ∃ m, sub.length = m := ⟨_, rfl⟩
    rw [hm] at hsl hsb ⊢
    have HM := Lib.hid hm
    obtain ⟨H, hH⟩ : ∃ H, w.heap.size = H := ⟨_, rfl⟩
    have HH := Lib.hid hH
    have hHw : w.heap.size ≤ H := by omega
    have hHw2 : H ≤ w.heap.size := by omega
    try rw [hH]
    clear ih hrow hat hm ho hn hln hsz hneg
    go_enter Try.func33, Try.ntmps33
    go_upto_region 1 with (fail)
    refine wp_name fun W hW => ?_
    have hX0 : W.heap[H]? = some (.cells (exA op n nm fd A m cap ln) 39) := by
      rw [hW.out, ← hH, heap_alloc_old _ _ (by simp)]
      exact heap_alloc_new _ _
    have hZ0 : W.heap[H + 1]? = some (.cells (exA 0 0 ⟨#[]⟩ ⟨#[]⟩ none 0 0 0) 39) := by
      rw [hW.out, ← hH]
      have := heap_alloc_new (w.alloc (.cells (exA op n nm fd A m cap ln) 39)) (.cells (exA 0 0 ⟨#[]⟩ ⟨#[]⟩ none 0 0 0) 39)
      rw [World.size_alloc] at this
      exact this
    have hWs : W.heap.size = H + 2 := by rw [hW.out, ← hH]; simp
    have hB : Below w.heap.size w W := by rw [hW.out]; (repeat' (first | (with_reducible exact Below.refl _ _) | (with_reducible assumption) | (with_reducible refine below_drewN ?_ _) | (with_reducible refine Below.drew ?_) | (with_reducible refine below_new ?_ (Nat.le_refl _) _) | (with_reducible refine Below.setCell ?_ ?_ _) | (with_reducible refine below_go ?_ (by assumption) (Nat.le_refl _)) | (simp; done) | (simp; omega) | omega))
    have HX0 := Lib.hid hX0
    have HZ0' := Lib.hid hZ0
    have HB := Lib.hid hB
    have HWS := Lib.hid hWs
    clear hW hX0 hZ0 hB hWs
    try rw [hH]
    go_upto_region 2 with (first
      | refine wpList_load_row rfl 39 _ rfl H rfl 39 (exA op n nm fd A m cap ln) (0, 0) _ HX0.out Try.underlying39 rfl expr_size ?_
      | refine wpList_store_new rfl 39 _ _ rfl W _ (exA op n nm fd A m cap ln) rfl rfl rfl expr_size rfl (exA_one op n nm fd A m cap ln) ?_)
    refine wp_name fun W2 hW2 => ?_
    have hY2 : W2.heap[H + 2]? = some (.cells (exA op n nm fd A m cap ln) 39) := by
      rw [hW2.out, ← HWS.out]
      exact heap_alloc_new _ _
    have hB2 : Below W.heap.size W W2 := by rw [hW2.out]; (repeat' (first | (with_reducible exact Below.refl _ _) | (with_reducible assumption) | (with_reducible refine below_drewN ?_ _) | (with_reducible refine Below.drew ?_) | (with_reducible refine below_new ?_ (Nat.le_refl _) _) | (with_reducible refine Below.setCell ?_ ?_ _) | (with_reducible refine below_go ?_ (by assumption) (Nat.le_refl _)) | (simp; done) | (simp; omega) | omega))
    have hs2 : W2.heap.size = H + 3 := by rw [hW2.out]; simp; exact HWS.out
    have d4 : W2.cell? ⟨H + 2, 4, none⟩ = some (.slice A m cap) := heap_cell 4 _ hY2 rfl
    have df : W2.frozen? ⟨H + 2, 4, none⟩ = false := heap_free 4 hY2
    have HY2 := Lib.hid hY2
    have HB2 := Lib.hid hB2
    clear hW2 hY2 hB2
    have hWs := HWS.out
    rw [hWs]
    simp only [Act.put]
    go_upto_region 3 with (fail)
    refine wp_name fun W3 hW3 => ?_
    have HY3 := Lib.hid (show W3.heap[H + 2]? = some (.cells #[.int .i64 op, .int .i64 n, .string nm, .string fd, .slice none 0 0, .int .i64 ln] 39) by rw [hW3.out]; exact cells_set HY2.out)
    have HB3 := Lib.hid (show Below W.heap.size W W3 by rw [hW3.out]; exact HB2.out.setCell (by simp; omega) _)
    have hs3 : H + 3 ≤ W3.heap.size := by rw [hW3.out]; simp; omega
    clear hW3 d4 df HY2 HB2 hs2
    go_wp2_with fail
    go_loopw [4] (fun u wr => ∃ (i : Nat) (v' : Value), i ≤ m ∧ u = .int .i64 i ∧ Hid (wr.heap[H + 2]? = some (.cells #[.int .i64 op, .int .i64 n, .string nm, .string fd, v', .int .i64 ln] 39)) ∧ Hid (BuiltE wr (H + 3) (foldEs opF (sub.take i)) v') ∧ Hid (Below W.heap.size W wr) ∧ H + 3 ≤ wr.heap.size) (fun u _ => m - (intOf u).toNat)
    case atStart => exact ⟨0, _, by omega, rfl, HY3, Lib.hid (by rw [List.take_zero, foldEs]; exact BuiltE.nil _ _), HB3, hs3⟩
    case round =>
      obtain ⟨i, v', hi, rfl, HYC, HBU, HBR, hrs⟩ := hrel
      have e4 : wr.cell? ⟨H, 4, none⟩ = some (.slice A m cap) := heap_cell 4 _ ((HBR.out.block H (by omega)).trans HX0.out) rfl
      have d4 : wr.cell? ⟨H + 2, 4, none⟩ = some v' := heap_cell 4 _ HYC.out rfl
      by_cases hlt : i < m
      · obtain ⟨b, off, y, As, ks, rfl, hbl, hy, hat, hsub, hrng⟩ := RowE.at HR.out (i := i) (by rw [HM.out]; exact hlt)
        have hi0 : (0 : Int) ≤ (i : Int) ∧ (i : Int) < (m : Int) := by omega
        have hdr : Below wr.heap.size wr wr.drew := Below.drew (Below.refl _ _)
        have HBD := Lib.hid (HBR.out.trans (hdr.mono HBR.out.size))
        have HY := Lib.hid hy
        have HATD := Lib.hid (hat.keep (HB.out.trans (HBD.out.mono HB.out.size)))
        have HSB : Hid (∀ W', Below W.heap.size W W' → W'.cell? ⟨H, 4, none⟩ = some (.slice (some ⟨b, off, none⟩) m cap) ∧ W'.rangeAt b (off + i * 6) (ExC y As ks)) := Lib.hid (fun W' hW' => ⟨heap_cell 4 _ ((hW'.block H (by omega)).trans HX0.out) rfl, fun j u hu => ((HB.out.trans (hW'.mono HB.out.size)).cell (p := ⟨b, off + i * 6 + j, none⟩) hbl).trans (hrng j u hu)⟩)
        clear hy hat hsub hrng
        go_wp2_with fail
        refine wp_region_held_drew (S := fun W' => W'.cell? ⟨H, 4, none⟩ = some (.slice (some ⟨b, off, none⟩) m cap) ∧ W'.rangeAt b (off + i * 6) (ExC y As ks)) (by kernel_rfl) (HSB.out _ HBD.out) (fun hHeld => ?_)
        (try simp only [Act.put, List.setIfInBounds_toArray, List.set_cons_zero, List.set_cons_succ])
        (refine takeH (i := 0) (v := ?_) rfl (by kernel_rfl) (by kernel_rfl) (by kernel_rfl) (fun _ _ _ h => h) (Or.inl ⟨by first | kernel_rfl | rfl, ?_⟩) (by assumption) ?_; rotate_left; focus (intro w' hSw; (try dsimp only at hSw); go_simp; try (with_reducible rfl)); (try simp only [Act.put, List.setIfInBounds_toArray, List.set_cons_zero, List.set_cons_succ]))
        (refine takeH (i := 2) (v := ?_) rfl (by kernel_rfl) (by kernel_rfl) (by kernel_rfl) (fun _ _ _ h => h) (Or.inl ⟨by first | kernel_rfl | rfl, ?_⟩) (by assumption) ?_; rotate_left; focus (intro w' hSw; (try dsimp only at hSw); go_simp; try (with_reducible rfl)); (try simp only [Act.put, List.setIfInBounds_toArray, List.set_cons_zero, List.set_cons_succ]))
        (refine takeH (i := 3) (v := ?_) rfl (by kernel_rfl) (by kernel_rfl) (by kernel_rfl) (fun _ _ _ h => h) (Or.inl ⟨by first | kernel_rfl | rfl, ?_⟩) (by assumption) ?_; rotate_left; focus (intro w' hSw; (try dsimp only at hSw); go_simp; try (with_reducible rfl)); (try simp only [Act.put, List.setIfInBounds_toArray, List.set_cons_zero, List.set_cons_succ]))
        (refine takeH (i := 4) (v := ?_) rfl (by kernel_rfl) (by kernel_rfl) (by kernel_rfl) (fun _ _ _ h => h) (Or.inl ⟨by first | kernel_rfl | rfl, ?_⟩) (by assumption) ?_; rotate_left; focus (intro w' hSw; (try dsimp only at hSw); go_simp; try (with_reducible rfl)); (try simp only [Act.put, List.setIfInBounds_toArray, List.set_cons_zero, List.set_cons_succ]))
        (refine takeH (i := 5) (v := ?_) rfl (by kernel_rfl) (by kernel_rfl) (by kernel_rfl) (fun _ _ _ h => h) (Or.inl ⟨by first | kernel_rfl | rfl, ?_⟩) (by assumption) ?_; rotate_left; focus (intro w' hSw; (try dsimp only at hSw); go_simp; try (with_reducible rfl)); (try simp only [Act.put, List.setIfInBounds_toArray, List.set_cons_zero, List.set_cons_succ]))
        (refine takeH (i := 6) (v := .agg (ExC y As ks).toArray) rfl (by kernel_rfl) (by kernel_rfl) (by kernel_rfl) (fun _ _ _ h => h) (yieldsIf_load_mid (by first | kernel_rfl | rfl) 39 _ rfl b (off + i * 6) rfl (ExC y As ks) _ (fun W' h => h.2) Try.underlying39 rfl expr_size) (by assumption) ?_; (try simp only [Act.put, List.setIfInBounds_toArray, List.set_cons_zero, List.set_cons_succ]))
        refine twoH (i := 1) (j := 7) (by kernel_rfl) rfl rfl (fun K hK => ?_) (fun K hK => ?_)
        · go_simp
          refine hK.out _ _ (HSB.out _ (by first | exact HB1a.out | exact HB1.out | exact HBD.out)) (fun hHeld => ?_)
          clear hK K
          (try simp only [Act.put, List.setIfInBounds_toArray, List.set_cons_zero, List.set_cons_succ])
          refine oneH (i := 7) (by kernel_rfl) rfl (fun K hK => ?_)
          go_simp
          go_at_call 33
          refine (HIH.out y (List.mem_of_getElem? HY.out) wr.drew As ks HATD.out).mono ?_
          rintro e w1 ⟨⟨A1, c1, rfl, hat1⟩, hb1⟩
          obtain ⟨y', hy'⟩ : ∃ y', foldE opF y = y' := ⟨_, rfl⟩
          rw [hy'] at hat1 ⊢
          have hz1 := hb1.size
          have k4 := (hb1.cell (p := ⟨H + 2, 4, none⟩) (by show H + 2 < wr.heap.size; omega)).trans d4
          have lH1 : H + 2 < w1.heap.size := by have : wr.heap.size ≤ w1.heap.size := hz1; omega
          have HB1 := Lib.hid (HBD.out.trans (hb1.mono HBD.out.size))
          have HY1 := Lib.hid ((hb1.block (H + 2) (by show H + 2 < wr.heap.size; omega)).trans HYC.out)
          obtain ⟨cs, hown, hcs⟩ := (HBU.out.below (hdr.trans (hb1.mono (Nat.le_refl _))))
          rw [foldEs_len, List.length_take, Nat.min_eq_left (by rw [HM.out]; omega)] at hown
          have hb1a : Below w1.heap.size w1 (w1.alloc (.cells (exA y'.op y'.n y'.name y'.field A1 y'.sub.length c1 y'.line) 39)) := below_new (Below.refl _ _) (Nat.le_refl _) _
          have hat2 : ExAt (only (w1.alloc (.cells (exA y'.op y'.n y'.name y'.field A1 y'.sub.length c1 y'.line) 39)) (frees (H + 3) v')) y' (ExC y' A1 c1) := hat1.move (.onlyB hb1a fun b hb hp => by
            have hp : wr.heap.size ≤ b := (by simp only [news, decide_eq_true_eq] at hp; exact hp)
            simp only [frees, Bool.and_eq_true, decide_eq_true_eq]
            refine ⟨by omega, fun e => ?_⟩
            obtain ⟨cs0, ho0, -⟩ := HBU.out
            have := (ho0.lt b e.symm).2
            omega)
          have HAT2 := Lib.hid hat2
          have HCS := Lib.hid (hcs.mono fun z c hz => hz.move (.onlyB hb1a fun b _ h => h))
          have HOWN := Lib.hid hown
          have HYY := Lib.hid hy'
          have HB1a : Hid (Below W.heap.size W (w1.alloc (.cells (exA y'.op y'.n y'.name y'.field A1 y'.sub.length c1 y'.line) 39))) := Lib.hid (below_new HB1.out (Nat.le_refl _) _)
          clear hat1 hat2 hcs hown hb1 hb1a hy'
          refine hK.out _ _ (HSB.out _ HB1.out) (fun hHeld => ?_)
          clear hK K
          (try simp only [Act.put, List.setIfInBounds_toArray, List.set_cons_zero, List.set_cons_succ])
          refine oneH (i := 8) (by kernel_rfl) rfl (fun K hK => ?_)
          go_simp
          refine hK.out _ (w1.alloc (.cells (exA y'.op y'.n y'.name y'.field A1 y'.sub.length c1 y'.line) 39)) (HSB.out _ HB1a.out) (fun hHeld => ?_)
          clear hK K
          (try simp only [Act.put, List.setIfInBounds_toArray, List.set_cons_zero, List.set_cons_succ])
          refine oneH (i := 9) (by kernel_rfl) rfl (fun K hK => ?_)
          refine step_append_lies _ rfl (.tmp 23) (.tmp 30) 37 rfl (H + 3) 39 i0 (.agg #[.int .i64 0, .int .i64 0, .string ⟨#[]⟩, .string ⟨#[]⟩, .slice none 0 0, .int .i64 0]) 6 80 Try.underlying37 HI.out HZ0.out HZ1.out HZ2.out rfl (by decide) v' i _ rfl (HOWN.out.alloc _) ⟨w1.heap.size, 0, none⟩ 1 1 (ExC y' A1 c1) rfl rfl ?c4 ?c6 (by decide) ?c1 ?c2 ?c3 (w1.heap.size + 1) ?c5 ?_
          case c4 =>
            intro j u hu
            have had : (⟨w1.heap.size, 0, none⟩ : Addr).add j = ⟨w1.heap.size, j, none⟩ := by cases j <;> simp [Addr.add]
            rw [had]
            exact heap_cell j _ (heap_alloc_new w1 _) (by rw [List.getElem?_toArray]; exact hu)
          case c6 => intro u hu; exact (List.all_eq_true.1 (by simpa using exC_one y' A1 c1) u hu)
          case c1 => unfold maxLen; omega
          case c2 => omega
          case c3 => first | omega | (simp; omega)
          case c5 => simp
          intro g cap2 w2 hown2 hgrow hatg hg2
          have HBU3 : Hid (BuiltE w2 (H + 3) (foldEs opF (sub.take (i + 1))) (.slice (some ⟨g, 0, none⟩) (i + 1) cap2)) := Lib.hid (by
            rw [foldEs_snoc opF HY.out, HYY.out]
            exact BuiltE.snoc HCS.out HAT2.out hown2 (by rw [foldEs_len, List.length_take, Nat.min_eq_left (by rw [HM.out]; omega)]) hgrow (hatg.imp id fun h => by rw [h]; simp))
          have hb2 : Below W.heap.size W w2 := below_grown HB1a.out hgrow (HOWN.out.alloc _) (by omega) HB1a.out.size
          have hY2 : w2.heap[H + 2]? = some (.cells #[.int .i64 op, .int .i64 n, .string nm, .string fd, v', .int .i64 ln] 39) := by
            rw [hgrow.block (H + 2) (by simp; omega) (fun e => by have := (HOWN.out.lt (H + 2) e.symm).1; omega), heap_alloc_old _ _ (by omega)]
            exact HY1.out
          have q4 : w2.cell? ⟨H + 2, 4, none⟩ = some v' := heap_cell 4 _ hY2 rfl
          have qf : w2.frozen? ⟨H + 2, 4, none⟩ = false := heap_free 4 hY2
          have hz2' : H + 3 ≤ w2.heap.size := by have := hgrow.size; simp at this; omega
          have HB2 := Lib.hid hb2
          have HY2 := Lib.hid hY2
          clear hown2 hgrow hatg HAT2 HCS HOWN hb2 hY2
          refine hK.out _ _ (HSB.out _ HB2.out) (fun hHeld => ?_)
          clear hK K
          (try simp only [Act.put, List.setIfInBounds_toArray, List.set_cons_zero, List.set_cons_succ])
          refine oneH (i := 10) (by kernel_rfl) rfl (fun K hK => ?_)
          go_simp
          refine hK.out _ _ (HSB.out _ HB2.out) (fun hHeld => ?_)
          clear hK K
          (try simp only [Act.put, List.setIfInBounds_toArray, List.set_cons_zero, List.set_cons_succ])
          refine oneH (i := 11) (by kernel_rfl) rfl (fun K hK => ?_)
          go_simp
          have HB3 : Hid (Below W.heap.size W (w2.setCell ⟨H + 2, 4, none⟩ (.slice (some ⟨g, 0, none⟩) (i + 1) cap2))) := Lib.hid (HB2.out.setCell (by simp; omega) _)
          refine hK.out _ _ (HSB.out _ HB3.out) (fun hHeld => ?_)
          clear hK K
          (try simp only [Act.put, List.setIfInBounds_toArray, List.set_cons_zero, List.set_cons_succ])
          refine wpAnyH_done (by kernel_rfl) ?_ _
          (try simp only [Act.put, List.setIfInBounds_toArray, List.set_cons_zero, List.set_cons_succ])
          clear q4 qf k4
          have HY3 := Lib.hid (cells_set (k := 4) (v := .slice (some ⟨g, 0, none⟩) (i + 1) cap2) HY2.out)
          have HBU4 := Lib.hid (HBU3.out.setCell (p := ⟨H + 2, 4, none⟩) (Nat.lt_succ_self _) (.slice (some ⟨g, 0, none⟩) (i + 1) cap2))
          go_wp2
          go_roundw
          case rel => exact ⟨i + 1, _, by omega, by go_num, HY3, HBU4, HB3, by simp; omega⟩
          case measure => simp [intOf]; omega
        · go_simp
          go_at_call 33
          refine (HIH.out y (List.mem_of_getElem? HY.out) wr.drew As ks HATD.out).mono ?_
          rintro e w1 ⟨⟨A1, c1, rfl, hat1⟩, hb1⟩
          obtain ⟨y', hy'⟩ : ∃ y', foldE opF y = y' := ⟨_, rfl⟩
          rw [hy'] at hat1 ⊢
          have hz1 := hb1.size
          have k4 := (hb1.cell (p := ⟨H + 2, 4, none⟩) (by show H + 2 < wr.heap.size; omega)).trans d4
          have lH1 : H + 2 < w1.heap.size := by have : wr.heap.size ≤ w1.heap.size := hz1; omega
          have HB1 := Lib.hid (HBD.out.trans (hb1.mono HBD.out.size))
          have HY1 := Lib.hid ((hb1.block (H + 2) (by show H + 2 < wr.heap.size; omega)).trans HYC.out)
          obtain ⟨cs, hown, hcs⟩ := (HBU.out.below (hdr.trans (hb1.mono (Nat.le_refl _))))
          rw [foldEs_len, List.length_take, Nat.min_eq_left (by rw [HM.out]; omega)] at hown
          have hb1a : Below w1.heap.size w1 (w1.alloc (.cells (exA y'.op y'.n y'.name y'.field A1 y'.sub.length c1 y'.line) 39)) := below_new (Below.refl _ _) (Nat.le_refl _) _
          have hat2 : ExAt (only (w1.alloc (.cells (exA y'.op y'.n y'.name y'.field A1 y'.sub.length c1 y'.line) 39)) (frees (H + 3) v')) y' (ExC y' A1 c1) := hat1.move (.onlyB hb1a fun b hb hp => by
            have hp : wr.heap.size ≤ b := (by simp only [news, decide_eq_true_eq] at hp; exact hp)
            simp only [frees, Bool.and_eq_true, decide_eq_true_eq]
            refine ⟨by omega, fun e => ?_⟩
            obtain ⟨cs0, ho0, -⟩ := HBU.out
            have := (ho0.lt b e.symm).2
            omega)
          have HAT2 := Lib.hid hat2
          have HCS := Lib.hid (hcs.mono fun z c hz => hz.move (.onlyB hb1a fun b _ h => h))
          have HOWN := Lib.hid hown
          have HYY := Lib.hid hy'
          have HB1a : Hid (Below W.heap.size W (w1.alloc (.cells (exA y'.op y'.n y'.name y'.field A1 y'.sub.length c1 y'.line) 39))) := Lib.hid (below_new HB1.out (Nat.le_refl _) _)
          clear hat1 hat2 hcs hown hb1 hb1a hy'
          refine hK.out _ _ (HSB.out _ HB1.out) (fun hHeld => ?_)
          clear hK K
          (try simp only [Act.put, List.setIfInBounds_toArray, List.set_cons_zero, List.set_cons_succ])
          refine twoH (i := 1) (j := 8) (by kernel_rfl) rfl rfl (fun K hK => ?_) (fun K hK => ?_)
          · go_simp
            refine hK.out _ _ (HSB.out _ (by first | exact HB1a.out | exact HB1.out | exact HBD.out)) (fun hHeld => ?_)
            clear hK K
            (try simp only [Act.put, List.setIfInBounds_toArray, List.set_cons_zero, List.set_cons_succ])
            refine oneH (i := 8) (by kernel_rfl) rfl (fun K hK => ?_)
            go_simp
            refine hK.out _ (w1.alloc (.cells (exA y'.op y'.n y'.name y'.field A1 y'.sub.length c1 y'.line) 39)) (HSB.out _ HB1a.out) (fun hHeld => ?_)
            clear hK K
            (try simp only [Act.put, List.setIfInBounds_toArray, List.set_cons_zero, List.set_cons_succ])
            refine oneH (i := 9) (by kernel_rfl) rfl (fun K hK => ?_)
            refine step_append_lies _ rfl (.tmp 23) (.tmp 30) 37 rfl (H + 3) 39 i0 (.agg #[.int .i64 0, .int .i64 0, .string ⟨#[]⟩, .string ⟨#[]⟩, .slice none 0 0, .int .i64 0]) 6 80 Try.underlying37 HI.out HZ0.out HZ1.out HZ2.out rfl (by decide) v' i _ rfl (HOWN.out.alloc _) ⟨w1.heap.size, 0, none⟩ 1 1 (ExC y' A1 c1) rfl rfl ?c4 ?c6 (by decide) ?c1 ?c2 ?c3 (w1.heap.size + 1) ?c5 ?_
            case c4 =>
              intro j u hu
              have had : (⟨w1.heap.size, 0, none⟩ : Addr).add j = ⟨w1.heap.size, j, none⟩ := by cases j <;> simp [Addr.add]
              rw [had]
              exact heap_cell j _ (heap_alloc_new w1 _) (by rw [List.getElem?_toArray]; exact hu)
            case c6 => intro u hu; exact (List.all_eq_true.1 (by simpa using exC_one y' A1 c1) u hu)
            case c1 => unfold maxLen; omega
            case c2 => omega
            case c3 => first | omega | (simp; omega)
            case c5 => simp
            intro g cap2 w2 hown2 hgrow hatg hg2
            have HBU3 : Hid (BuiltE w2 (H + 3) (foldEs opF (sub.take (i + 1))) (.slice (some ⟨g, 0, none⟩) (i + 1) cap2)) := Lib.hid (by
              rw [foldEs_snoc opF HY.out, HYY.out]
              exact BuiltE.snoc HCS.out HAT2.out hown2 (by rw [foldEs_len, List.length_take, Nat.min_eq_left (by rw [HM.out]; omega)]) hgrow (hatg.imp id fun h => by rw [h]; simp))
            have hb2 : Below W.heap.size W w2 := below_grown HB1a.out hgrow (HOWN.out.alloc _) (by omega) HB1a.out.size
            have hY2 : w2.heap[H + 2]? = some (.cells #[.int .i64 op, .int .i64 n, .string nm, .string fd, v', .int .i64 ln] 39) := by
              rw [hgrow.block (H + 2) (by simp; omega) (fun e => by have := (HOWN.out.lt (H + 2) e.symm).1; omega), heap_alloc_old _ _ (by omega)]
              exact HY1.out
            have q4 : w2.cell? ⟨H + 2, 4, none⟩ = some v' := heap_cell 4 _ hY2 rfl
            have qf : w2.frozen? ⟨H + 2, 4, none⟩ = false := heap_free 4 hY2
            have hz2' : H + 3 ≤ w2.heap.size := by have := hgrow.size; simp at this; omega
            have HB2 := Lib.hid hb2
            have HY2 := Lib.hid hY2
            clear hown2 hgrow hatg HAT2 HCS HOWN hb2 hY2
            refine hK.out _ _ (HSB.out _ HB2.out) (fun hHeld => ?_)
            clear hK K
            (try simp only [Act.put, List.setIfInBounds_toArray, List.set_cons_zero, List.set_cons_succ])
            refine oneH (i := 10) (by kernel_rfl) rfl (fun K hK => ?_)
            go_simp
            refine hK.out _ _ (HSB.out _ HB2.out) (fun hHeld => ?_)
            clear hK K
            (try simp only [Act.put, List.setIfInBounds_toArray, List.set_cons_zero, List.set_cons_succ])
            refine oneH (i := 11) (by kernel_rfl) rfl (fun K hK => ?_)
            go_simp
            have HB3 : Hid (Below W.heap.size W (w2.setCell ⟨H + 2, 4, none⟩ (.slice (some ⟨g, 0, none⟩) (i + 1) cap2))) := Lib.hid (HB2.out.setCell (by simp; omega) _)
            refine hK.out _ _ (HSB.out _ HB3.out) (fun hHeld => ?_)
            clear hK K
            (try simp only [Act.put, List.setIfInBounds_toArray, List.set_cons_zero, List.set_cons_succ])
            refine wpAnyH_done (by kernel_rfl) ?_ _
            (try simp only [Act.put, List.setIfInBounds_toArray, List.set_cons_zero, List.set_cons_succ])
            clear q4 qf k4
            have HY3 := Lib.hid (cells_set (k := 4) (v := .slice (some ⟨g, 0, none⟩) (i + 1) cap2) HY2.out)
            have HBU4 := Lib.hid (HBU3.out.setCell (p := ⟨H + 2, 4, none⟩) (Nat.lt_succ_self _) (.slice (some ⟨g, 0, none⟩) (i + 1) cap2))
            go_wp2
            go_roundw
            case rel => exact ⟨i + 1, _, by omega, by go_num, HY3, HBU4, HB3, by simp; omega⟩
            case measure => simp [intOf]; omega
          · go_simp
            refine hK.out _ (w1.alloc (.cells (exA y'.op y'.n y'.name y'.field A1 y'.sub.length c1 y'.line) 39)) (HSB.out _ HB1a.out) (fun hHeld => ?_)
            clear hK K
            (try simp only [Act.put, List.setIfInBounds_toArray, List.set_cons_zero, List.set_cons_succ])
            refine oneH (i := 1) (by kernel_rfl) rfl (fun K hK => ?_)
            go_simp
            refine hK.out _ _ (HSB.out _ (by first | exact HB1a.out | exact HB1.out | exact HBD.out)) (fun hHeld => ?_)
            clear hK K
            (try simp only [Act.put, List.setIfInBounds_toArray, List.set_cons_zero, List.set_cons_succ])
            refine oneH (i := 9) (by kernel_rfl) rfl (fun K hK => ?_)
            refine step_append_lies _ rfl (.tmp 23) (.tmp 30) 37 rfl (H + 3) 39 i0 (.agg #[.int .i64 0, .int .i64 0, .string ⟨#[]⟩, .string ⟨#[]⟩, .slice none 0 0, .int .i64 0]) 6 80 Try.underlying37 HI.out HZ0.out HZ1.out HZ2.out rfl (by decide) v' i _ rfl (HOWN.out.alloc _) ⟨w1.heap.size, 0, none⟩ 1 1 (ExC y' A1 c1) rfl rfl ?c4 ?c6 (by decide) ?c1 ?c2 ?c3 (w1.heap.size + 1) ?c5 ?_
            case c4 =>
              intro j u hu
              have had : (⟨w1.heap.size, 0, none⟩ : Addr).add j = ⟨w1.heap.size, j, none⟩ := by cases j <;> simp [Addr.add]
              rw [had]
              exact heap_cell j _ (heap_alloc_new w1 _) (by rw [List.getElem?_toArray]; exact hu)
            case c6 => intro u hu; exact (List.all_eq_true.1 (by simpa using exC_one y' A1 c1) u hu)
            case c1 => unfold maxLen; omega
            case c2 => omega
            case c3 => first | omega | (simp; omega)
            case c5 => simp
            intro g cap2 w2 hown2 hgrow hatg hg2
            have HBU3 : Hid (BuiltE w2 (H + 3) (foldEs opF (sub.take (i + 1))) (.slice (some ⟨g, 0, none⟩) (i + 1) cap2)) := Lib.hid (by
              rw [foldEs_snoc opF HY.out, HYY.out]
              exact BuiltE.snoc HCS.out HAT2.out hown2 (by rw [foldEs_len, List.length_take, Nat.min_eq_left (by rw [HM.out]; omega)]) hgrow (hatg.imp id fun h => by rw [h]; simp))
            have hb2 : Below W.heap.size W w2 := below_grown HB1a.out hgrow (HOWN.out.alloc _) (by omega) HB1a.out.size
            have hY2 : w2.heap[H + 2]? = some (.cells #[.int .i64 op, .int .i64 n, .string nm, .string fd, v', .int .i64 ln] 39) := by
              rw [hgrow.block (H + 2) (by simp; omega) (fun e => by have := (HOWN.out.lt (H + 2) e.symm).1; omega), heap_alloc_old _ _ (by omega)]
              exact HY1.out
            have q4 : w2.cell? ⟨H + 2, 4, none⟩ = some v' := heap_cell 4 _ hY2 rfl
            have qf : w2.frozen? ⟨H + 2, 4, none⟩ = false := heap_free 4 hY2
            have hz2' : H + 3 ≤ w2.heap.size := by have := hgrow.size; simp at this; omega
            have HB2 := Lib.hid hb2
            have HY2 := Lib.hid hY2
            clear hown2 hgrow hatg HAT2 HCS HOWN hb2 hY2
            refine hK.out _ _ (HSB.out _ HB2.out) (fun hHeld => ?_)
            clear hK K
            (try simp only [Act.put, List.setIfInBounds_toArray, List.set_cons_zero, List.set_cons_succ])
            refine oneH (i := 10) (by kernel_rfl) rfl (fun K hK => ?_)
            go_simp
            refine hK.out _ _ (HSB.out _ HB2.out) (fun hHeld => ?_)
            clear hK K
            (try simp only [Act.put, List.setIfInBounds_toArray, List.set_cons_zero, List.set_cons_succ])
            refine oneH (i := 11) (by kernel_rfl) rfl (fun K hK => ?_)
            go_simp
            have HB3 : Hid (Below W.heap.size W (w2.setCell ⟨H + 2, 4, none⟩ (.slice (some ⟨g, 0, none⟩) (i + 1) cap2))) := Lib.hid (HB2.out.setCell (by simp; omega) _)
            refine hK.out _ _ (HSB.out _ HB3.out) (fun hHeld => ?_)
            clear hK K
            (try simp only [Act.put, List.setIfInBounds_toArray, List.set_cons_zero, List.set_cons_succ])
            refine wpAnyH_done (by kernel_rfl) ?_ _
            (try simp only [Act.put, List.setIfInBounds_toArray, List.set_cons_zero, List.set_cons_succ])
            clear q4 qf k4
            have HY3 := Lib.hid (cells_set (k := 4) (v := .slice (some ⟨g, 0, none⟩) (i + 1) cap2) HY2.out)
            have HBU4 := Lib.hid (HBU3.out.setCell (p := ⟨H + 2, 4, none⟩) (Nat.lt_succ_self _) (.slice (some ⟨g, 0, none⟩) (i + 1) cap2))
            go_wp2
            go_roundw
            case rel => exact ⟨i + 1, _, by omega, by go_num, HY3, HBU4, HB3, by simp; omega⟩
            case measure => simp [intOf]; omega
      · obtain rfl : i = m := by omega
        obtain ⟨ys, hys⟩ : ∃ ys, foldEs opF sub = ys := ⟨_, rfl⟩
        have hbu := HBU.out
        rw [List.take_of_length_le (by rw [HM.out]; exact Nat.le_refl _), hys] at hbu
        have hyl : ys.length = i := by rw [← hys, foldEs_len, HM.out]
        obtain ⟨A1, c1, rfl, hrow1⟩ := hbu.row3 (by rw [hyl]; exact hsb)
        have HYS := Lib.hid hys
        have HYL := Lib.hid hyl
        rw [hyl] at HYC
        have hc1 := hrow1.2.1
        have hc1' : i ≤ c1 := by rw [← hyl]; exact hrow1.1
        have HYV : Hid (YV w wr H op n nm fd A i cap A1 i c1 ln ys) := Lib.hid ⟨(HBR.out.block H (by omega)).trans HX0.out, (HBR.out.block (H + 1) (by omega)).trans HZ0'.out, HYC.out, by have h1 := HB.out.trans (HBR.out.mono HB.out.size); rw [HH.out] at h1; exact h1, hrow1, hrs⟩
        have HSUB : Hid (∀ y ∈ ys, y.op = 6 → y.sub.length = 1) := Lib.hid (fun y hy => by
          rw [← HYS.out, foldEs_map] at hy
          obtain ⟨x, hx, rfl⟩ := List.mem_map.1 hy
          exact neg1_fold (HNEG.out.subs x hx))
        have H6 : Hid (op = 6 → i = 1) := Lib.hid (fun h => by rw [← HM.out]; exact HNEG.out.top h)
        have HT : Hid (foldE opF (.mk op n nm fd sub ln) = topX opF op n nm fd ys ln) := Lib.hid (by rw [foldE, HYS.out])
        rw [hyl] at d4
        have d0 : wr.cell? ⟨H + 2, 0, none⟩ = some (.int .i64 op) := heap_cell 0 _ HYV.out.y rfl
        clear HBU hbu hrow1 hys hyl HYC HX0 HZ0' HIH HR HNEG HI HZ0 HZ1 HZ2 hlt HY3 HB3 hs3
        go_upto_region 7 with (fail)
        clear e4
        go_cut [48] from 33 to 48 (fun r wx => ∃ b : Bool, r = .bool b ∧ wx = wr ∧ Hid (b = (decide (op < 6) || (constV (.mk op n nm fd ys ln)).2.2)))
        case first =>
          by_cases hop : op < 6
          · have hop5 : op ≤ 5 := by omega
            have HOP := Lib.hid hop
            go_wp2
            go_meet
            case rel => exact ⟨_, rfl, rfl, Lib.hid (by rw [decide_eq_true HOP.out]; rfl)⟩
          have hop5 : ¬ op ≤ 5 := by omega
          by_cases h6 : op = 6
          · have hi1 := H6.out h6
            obtain ⟨b1, o1, y1, As1, ks1, hA1, hb1, hy1, hat1, hsub1, hrg1⟩ := RowE.at HYV.out.row (i := 0) (by rw [HYL.out]; omega)
            have c0 : wr.cell? ⟨b1, o1, none⟩ = some (.int .i64 y1.op) := hrg1 0 _ rfl
            have u6 : (op == 6) = true := by simp [h6]
            have hi1I : (i : Int) = 1 := by omega
            obtain ⟨q1, hq1⟩ : ∃ q, y1.op = q := ⟨_, rfl⟩
            have hys1 : ys[0]? = some y1 := hy1
            have hcv : (constV (.mk op n nm fd ys ln)).2.2 = decide (q1 = 1) := by
              unfold constV
              rw [if_neg (by show ¬ op = 1; omega), if_neg (by show ¬ op = 2; omega)]
              by_cases hq : q1 = 1
              · rw [if_pos ⟨h6, by show ys.length = 1; rw [HYL.out]; omega, by show (ys[0]?.map Ex.op) = some 1; rw [hys1]; simp [hq1, hq]⟩, decide_eq_true hq]
              · rw [if_neg (by rintro ⟨-, -, h⟩; apply hq; have h : (ys[0]?.map Ex.op) = some 1 := h; rw [hys1] at h; simpa [hq1] using h), decide_eq_false hq]
            rw [hq1] at c0
            have HCV := Lib.hid hcv
            have HOP := Lib.hid hop
            have hip : (0 : Int) < (i : Int) := by omega
            clear hrg1 hsub1 hat1 hy1 hys1 hcv hq1 hi1 hi1I h6
            subst hA1
            by_cases hq : q1 = 1
            · have uq : (q1 == 1) = true := by simp [hq]
              have HQ := Lib.hid hq
              clear hq
              go_wp2
              go_meet
              case rel => exact ⟨_, rfl, rfl, Lib.hid (by rw [HCV.out, decide_eq_true HQ.out, decide_eq_false (show ¬ op < 6 by have := HOP.out; omega)]; rfl)⟩
            · have uq : (q1 == 1) = false := by simp [hq]
              have HQ := Lib.hid hq
              go_wp2
              go_meet
              case rel => exact ⟨_, rfl, rfl, Lib.hid (by rw [HCV.out, decide_eq_false HQ.out, decide_eq_false (show ¬ op < 6 by have := HOP.out; omega)]; first | rfl | simp [uq])⟩
          · have u6 : (op == 6) = false := by simp [h6]
            have hcv : (constV (.mk op n nm fd ys ln)).2.2 = false := by
              unfold constV
              rw [if_neg (by show ¬ op = 1; omega), if_neg (by show ¬ op = 2; omega), if_neg (fun h => h6 h.1)]
            have HCV := Lib.hid hcv
            have HOP := Lib.hid hop
            clear hcv
            go_wp2
            go_meet
            case rel => exact ⟨_, rfl, rfl, Lib.hid (by rw [HCV.out, decide_eq_false (show ¬ op < 6 by have := HOP.out; omega)]; first | rfl | simp [u6])⟩
        case rest =>
          obtain ⟨b, rfl, rfl, HC⟩ := hcut
          cases b
          rotate_left
          · have hc := HC.out.symm
            rw [Bool.or_eq_true] at hc
            have HEQ := Lib.hid (HT.out.trans (by rcases hc with h | h; exact topX_low (of_decide_eq_true h); exact topX_const h))
            clear hc HC d0 d4
            go_upto_region 8 with (fail)
            go_wp2_with (first   | refine wpList_load_row rfl 39 _ rfl (H + 2) rfl 39 (exA op n nm fd A1 i c1 ln) (0, 0) _ HYV.out.y Try.underlying39 rfl expr_size ?_   | refine wpList_store_row rfl 39 _ _ rfl (H + 1) (exA op n nm fd A1 i c1 ln) rfl rfl 39 _ HYV.out.z expr_size rfl (exA_one op n nm fd A1 i c1 ln) ?_)
            exact post_row Try.results33 rfl (setRow_heap _ _ _ _ _ _ HYV.out.z) Try.underlying39 rfl expr_size rfl (HYV.out.done HEQ.out HO.out HNr.out HLN.out HYL.out _)
          · have hc := HC.out.symm
            rw [Bool.or_eq_false_iff] at hc
            have hop : ¬ op < 6 := of_decide_eq_false hc.1
            have HCF : Hid (¬ (constV (.mk op n nm fd ys ln)).2.2 = true) := Lib.hid (by rw [hc.2]; exact Bool.false_ne_true)
            clear hc HC
            obtain ⟨j0, hj0, jz0, jz1, jz2⟩ := info_parts fd_i64
            have JI := Lib.hid hj0
            have JZ0 := Lib.hid jz0
            have JZ1 := Lib.hid jz1
            have JZ2 := Lib.hid jz2
            clear hj0 jz0 jz1 jz2
            go_upto_region 11 with (fail)
            refine wp_name fun W2 hW2 => ?_
            obtain ⟨K, hK⟩ : ∃ K, K = wc.heap.size := ⟨_, rfl⟩
            have hk0 : W2.heap[K]? = some (.cells #[.int .i64 0, .int .i64 0, .int .i64 0] 92) := by rw [hW2.out, hK]; exact heap_alloc_new _ _
            have hb2 : Below K wc W2 := by rw [hW2.out, hK]; (repeat' (first | (with_reducible exact Below.refl _ _) | (with_reducible assumption) | (with_reducible refine below_drewN ?_ _) | (with_reducible refine Below.drew ?_) | (with_reducible refine below_new ?_ (Nat.le_refl _) _) | (with_reducible refine Below.setCell ?_ ?_ _) | (with_reducible refine below_go ?_ (by assumption) (Nat.le_refl _)) | (simp; done) | (simp; omega) | omega))
            have hs2 : K + 1 ≤ W2.heap.size := by rw [hW2.out, hK]; simp
            rw [← hK]
            have HKV := Lib.hid hK
            have HB2 := Lib.hid hb2
            have HK0 := Lib.hid hk0
            have hKlt : H + 3 ≤ K := by have := HYV.out.lt; omega
            clear hW2 hK hb2 hk0 d0 d4
            try simp only [Act.put]
            go_wp2_with fail
            go_loopw [5, 7] (fun v u wr2 => ∃ (j : Nat) (v' : Value) (k0 k1 k2 : Nat), v' = v ∧ j ≤ i ∧ u = .int .i64 j ∧ k0 ≤ j ∧ k1 ≤ j ∧ k2 ≤ j ∧ Hid (k0 = kcnt 0 (ys.take j) ∧ k1 = kcnt 1 (ys.take j) ∧ k2 = kcnt 2 (ys.take j)) ∧ Hid (wr2.heap[K]? = some (.cells #[.int .i64 k0, .int .i64 k1, .int .i64 k2] 92)) ∧ Hid (wr2.ownsRow (K + 1) 2 1 v' j (intsF (valsX (ys.take j)))) ∧ Hid (Below K wc wr2) ∧ K + 1 ≤ wr2.heap.size) (fun _ u _ => i - (intOf u).toNat)
            case atStart => exact ⟨0, _, 0, 0, 0, rfl, by omega, rfl, by omega, by omega, by omega, Lib.hid ⟨rfl, rfl, rfl⟩, HK0, Lib.hid (World.ownsRow_nil _ _ _ _), HB2, hs2⟩
            case round =>
              obtain ⟨j, v', k0, k1, k2, rfl, hj, rfl, hk0, hk1, hk2, HCN, HKC, HOW, HBK, hsk⟩ := hrel
              have HYVr : Hid (YV w wr H op n nm fd A i cap A1 i c1 ln ys) := Lib.hid (HYV.out.below (by rw [← HKV.out]; exact HBK.out))
              have s4 : wr.cell? ⟨H + 2, 4, none⟩ = some (.slice A1 i c1) := heap_cell 4 _ HYVr.out.y rfl
              by_cases hlt : j < i
              · obtain ⟨b2, o2, y, As, ks, hA1, hbl, hy, hat, hsub, hrng⟩ := RowE.at HYVr.out.row (i := j) (by rw [HYL.out]; exact hlt)
                have hi0 : (0 : Int) ≤ (j : Int) ∧ (j : Int) < (i : Int) := by omega
                have HY := Lib.hid hy
                have HRG := Lib.hid hrng
                have HAT := Lib.hid hat
                have h61 := HSUB.out y (List.mem_of_getElem? hy)
                have H61 := Lib.hid h61
                clear hy hrng hat hsub h61
                subst hA1
                obtain ⟨z1, hz1⟩ : ∃ z, (constV y).1 = z := ⟨_, rfl⟩
                have HZV := Lib.hid hz1
                clear hz1
                go_wp2_with (refine wpList_load_mid rfl 39 _ rfl b2 (o2 + j * 6) rfl (ExC y As ks) _ HRG.out Try.underlying39 rfl expr_size ?_)
                refine (rvalue_any y As ks _ HAT.out H61.out).mono ?_
                rintro e w4 ⟨rfl, hb4⟩
                have hz4 := hb4.size
                have hkk := (hb4.block K (by omega)).trans HKC.out
                have HK4 := Lib.hid hkk
                have HO4 := Lib.hid (owns_below HOW.out hb4)
                have HB4 := Lib.hid (HBK.out.trans (hb4.mono (by omega)))
                clear hb4 hkk s4 HOW HKC HBK
                rcases kindX_lt y with hq | hq | hq
                · rw [show valV y = .tuple #[.int .i64 z1, .int .i64 0] by unfold valV; rw [HZV.out, hq]; rfl]
                  have HQ := Lib.hid hq
                  clear hq
                  go_wp2_with (at_builtin; refine wpList_append_own _ rfl _ _ 22 rfl (K + 1) 2 j0 (.int .i64 0) 1 8 Try.underlying22 JI.out JZ0.out JZ1.out JZ2.out rfl (by decide) _ j _ rfl (HO4.out.alloc _) ⟨w4.heap.size, 0, none⟩ 1 1 [.int .i64 z1] rfl rfl ?c14 (one_cell _ rfl) ?c11 ?c12 ?c13 ?_)
                  case c14 =>
                    intro q u hu
                    have had : (⟨w4.heap.size, 0, none⟩ : Addr).add q = ⟨w4.heap.size, q, none⟩ := by cases q <;> simp [Addr.add]
                    rw [had]
                    exact heap_cell q _ (heap_alloc_new w4 _) (by rw [List.getElem?_toArray]; exact hu)
                  case c11 => unfold maxLen; omega
                  case c12 => omega
                  case c13 => first | omega | (simp; omega)
                  intro v2 w5 hown5 hgrow _
                  have HO5 : Hid (w5.ownsRow (K + 1) 2 1 v2 (j + 1) (intsF (valsX (ys.take (j + 1))))) := Lib.hid (by
                    rw [valsX_snoc HY.out, HZV.out]
                    simpa [intsF] using hown5)
                  have hb5 : Below K wc w5 := below_grown (below_new HB4.out (by rw [← HKV.out]; exact Nat.le_refl _) _) hgrow (HO4.out.alloc _) (by omega) (by simp; omega)
                  have hK5 : w5.heap[K]? = some (.cells #[.int .i64 k0, .int .i64 k1, .int .i64 k2] 92) := by
                    rw [hgrow.block K (by simp; omega) (fun e => by have := (HO4.out.lt K e.symm).1; omega), heap_alloc_old _ _ (by omega)]
                    exact HK4.out
                  have hz5 : K + 1 ≤ w5.heap.size := by have := hgrow.size; simp at this; omega
                  have t0 : w5.cell? ⟨K, 0, none⟩ = some (.int .i64 k0) := heap_cell 0 _ hK5 rfl
                  have tf : w5.frozen? ⟨K, 0, none⟩ = false := heap_free 0 hK5
                  have HB5 := Lib.hid hb5
                  have HK5 := Lib.hid hK5
                  have HCN5 : Hid (k0 + 1 = kcnt 0 (ys.take (j + 1)) ∧ k1 = kcnt 1 (ys.take (j + 1)) ∧ k2 = kcnt 2 (ys.take (j + 1))) := Lib.hid (by
                    rw [kcnt_snoc 0 HY.out, kcnt_snoc 1 HY.out, kcnt_snoc 2 HY.out, HQ.out, ← HCN.out.1, ← HCN.out.2.1, ← HCN.out.2.2]
                    exact ⟨rfl, rfl, rfl⟩)
                  clear hown5 hgrow hb5 hK5 HO4 HK4 HB4
                  go_wp2
                  go_roundw
                  case rel => exact ⟨j + 1, _, k0 + 1, k1, k2, rfl, by omega, by go_num, by omega, by omega, by omega, HCN5, Lib.hid (by rw [show (((k0 + 1 : Nat)) : Int) = (k0 : Int) + 1 by omega]; exact cells_set HK5.out), Lib.hid (owns_setCell HO5.out (Nat.lt_succ_self _) _), Lib.hid (HB5.out.setCell (Nat.le_refl _) _), by simp; omega⟩
                  case measure => simp [intOf]; omega
                · rw [show valV y = .tuple #[.int .i64 z1, .int .i64 1] by unfold valV; rw [HZV.out, hq]; rfl]
                  have HQ := Lib.hid hq
                  clear hq
                  go_wp2_with (at_builtin; refine wpList_append_own _ rfl _ _ 22 rfl (K + 1) 2 j0 (.int .i64 0) 1 8 Try.underlying22 JI.out JZ0.out JZ1.out JZ2.out rfl (by decide) _ j _ rfl (HO4.out.alloc _) ⟨w4.heap.size, 0, none⟩ 1 1 [.int .i64 z1] rfl rfl ?c14 (one_cell _ rfl) ?c11 ?c12 ?c13 ?_)
                  case c14 =>
                    intro q u hu
                    have had : (⟨w4.heap.size, 0, none⟩ : Addr).add q = ⟨w4.heap.size, q, none⟩ := by cases q <;> simp [Addr.add]
                    rw [had]
                    exact heap_cell q _ (heap_alloc_new w4 _) (by rw [List.getElem?_toArray]; exact hu)
                  case c11 => unfold maxLen; omega
                  case c12 => omega
                  case c13 => first | omega | (simp; omega)
                  intro v2 w5 hown5 hgrow _
                  have HO5 : Hid (w5.ownsRow (K + 1) 2 1 v2 (j + 1) (intsF (valsX (ys.take (j + 1))))) := Lib.hid (by
                    rw [valsX_snoc HY.out, HZV.out]
                    simpa [intsF] using hown5)
                  have hb5 : Below K wc w5 := below_grown (below_new HB4.out (by rw [← HKV.out]; exact Nat.le_refl _) _) hgrow (HO4.out.alloc _) (by omega) (by simp; omega)
                  have hK5 : w5.heap[K]? = some (.cells #[.int .i64 k0, .int .i64 k1, .int .i64 k2] 92) := by
                    rw [hgrow.block K (by simp; omega) (fun e => by have := (HO4.out.lt K e.symm).1; omega), heap_alloc_old _ _ (by omega)]
                    exact HK4.out
                  have hz5 : K + 1 ≤ w5.heap.size := by have := hgrow.size; simp at this; omega
                  have t1 : w5.cell? ⟨K, 1, none⟩ = some (.int .i64 k1) := heap_cell 1 _ hK5 rfl
                  have tf : w5.frozen? ⟨K, 1, none⟩ = false := heap_free 1 hK5
                  have HB5 := Lib.hid hb5
                  have HK5 := Lib.hid hK5
                  have HCN5 : Hid (k0 = kcnt 0 (ys.take (j + 1)) ∧ k1 + 1 = kcnt 1 (ys.take (j + 1)) ∧ k2 = kcnt 2 (ys.take (j + 1))) := Lib.hid (by
                    rw [kcnt_snoc 0 HY.out, kcnt_snoc 1 HY.out, kcnt_snoc 2 HY.out, HQ.out, ← HCN.out.1, ← HCN.out.2.1, ← HCN.out.2.2]
                    exact ⟨rfl, rfl, rfl⟩)
                  clear hown5 hgrow hb5 hK5 HO4 HK4 HB4
                  go_wp2
                  go_roundw
                  case rel => exact ⟨j + 1, _, k0, k1 + 1, k2, rfl, by omega, by go_num, by omega, by omega, by omega, HCN5, Lib.hid (by rw [show (((k1 + 1 : Nat)) : Int) = (k1 : Int) + 1 by omega]; exact cells_set HK5.out), Lib.hid (owns_setCell HO5.out (Nat.lt_succ_self _) _), Lib.hid (HB5.out.setCell (Nat.le_refl _) _), by simp; omega⟩
                  case measure => simp [intOf]; omega
                · rw [show valV y = .tuple #[.int .i64 z1, .int .i64 2] by unfold valV; rw [HZV.out, hq]; rfl]
                  have HQ := Lib.hid hq
                  clear hq
                  go_wp2_with (at_builtin; refine wpList_append_own _ rfl _ _ 22 rfl (K + 1) 2 j0 (.int .i64 0) 1 8 Try.underlying22 JI.out JZ0.out JZ1.out JZ2.out rfl (by decide) _ j _ rfl (HO4.out.alloc _) ⟨w4.heap.size, 0, none⟩ 1 1 [.int .i64 z1] rfl rfl ?c14 (one_cell _ rfl) ?c11 ?c12 ?c13 ?_)
                  case c14 =>
                    intro q u hu
                    have had : (⟨w4.heap.size, 0, none⟩ : Addr).add q = ⟨w4.heap.size, q, none⟩ := by cases q <;> simp [Addr.add]
                    rw [had]
                    exact heap_cell q _ (heap_alloc_new w4 _) (by rw [List.getElem?_toArray]; exact hu)
                  case c11 => unfold maxLen; omega
                  case c12 => omega
                  case c13 => first | omega | (simp; omega)
                  intro v2 w5 hown5 hgrow _
                  have HO5 : Hid (w5.ownsRow (K + 1) 2 1 v2 (j + 1) (intsF (valsX (ys.take (j + 1))))) := Lib.hid (by
                    rw [valsX_snoc HY.out, HZV.out]
                    simpa [intsF] using hown5)
                  have hb5 : Below K wc w5 := below_grown (below_new HB4.out (by rw [← HKV.out]; exact Nat.le_refl _) _) hgrow (HO4.out.alloc _) (by omega) (by simp; omega)
                  have hK5 : w5.heap[K]? = some (.cells #[.int .i64 k0, .int .i64 k1, .int .i64 k2] 92) := by
                    rw [hgrow.block K (by simp; omega) (fun e => by have := (HO4.out.lt K e.symm).1; omega), heap_alloc_old _ _ (by omega)]
                    exact HK4.out
                  have hz5 : K + 1 ≤ w5.heap.size := by have := hgrow.size; simp at this; omega
                  have t2 : w5.cell? ⟨K, 2, none⟩ = some (.int .i64 k2) := heap_cell 2 _ hK5 rfl
                  have tf : w5.frozen? ⟨K, 2, none⟩ = false := heap_free 2 hK5
                  have HB5 := Lib.hid hb5
                  have HK5 := Lib.hid hK5
                  have HCN5 : Hid (k0 = kcnt 0 (ys.take (j + 1)) ∧ k1 = kcnt 1 (ys.take (j + 1)) ∧ k2 + 1 = kcnt 2 (ys.take (j + 1))) := Lib.hid (by
                    rw [kcnt_snoc 0 HY.out, kcnt_snoc 1 HY.out, kcnt_snoc 2 HY.out, HQ.out, ← HCN.out.1, ← HCN.out.2.1, ← HCN.out.2.2]
                    exact ⟨rfl, rfl, rfl⟩)
                  clear hown5 hgrow hb5 hK5 HO4 HK4 HB4
                  go_wp2
                  go_roundw
                  case rel => exact ⟨j + 1, _, k0, k1, k2 + 1, rfl, by omega, by go_num, by omega, by omega, by omega, HCN5, Lib.hid (by rw [show (((k2 + 1 : Nat)) : Int) = (k2 : Int) + 1 by omega]; exact cells_set HK5.out), Lib.hid (owns_setCell HO5.out (Nat.lt_succ_self _) _), Lib.hid (HB5.out.setCell (Nat.le_refl _) _), by simp; omega⟩
                  case measure => simp [intOf]; omega
              · obtain rfl : i = j := by omega
                have hysT : ys.take i = ys := List.take_of_length_le (by rw [HYL.out]; exact Nat.le_refl _)
                have hcn := HCN.out
                rw [hysT] at hcn
                have hown := HOW.out
                rw [hysT] at hown
                obtain ⟨Al, cl, rfl, hlc, hcm, -⟩ := own_form hown
                unfold maxLen at hcm
                have HLI := Lib.hid (Lies.own hown)
                have HC2 := Lib.hid hcn
                have HVR : Hid (∀ z ∈ valsX ys, I64 z) := Lib.hid (fun z hz => by
                  obtain ⟨y, hy, rfl⟩ := List.mem_map.1 hz
                  obtain ⟨q, hq⟩ := List.mem_iff_getElem?.1 hy
                  obtain ⟨b3, o3, y3, As3, ks3, -, -, hy3, hat3, hsub3, -⟩ := RowE.at HYVr.out.row (i := q) (List.getElem?_eq_some_iff.1 hq).1
                  rw [hq] at hy3
                  cases hy3
                  obtain ⟨_, _, _, _, _, hn3, _⟩ := hat3.form
                  refine constV_rng hn3 fun s hs => ?_
                  obtain ⟨q4, hq4⟩ := List.mem_iff_getElem?.1 hs
                  obtain ⟨b4, o4, y4, As4, ks4, -, -, hy4, hat4, -, -⟩ := RowE.at hsub3 (i := q4) (List.getElem?_eq_some_iff.1 hq4).1
                  rw [hq4] at hy4
                  cases hy4
                  obtain ⟨_, _, _, _, _, hn4, _⟩ := hat4.form
                  exact hn4)
                have p0 : wr.cell? ⟨K, 0, none⟩ = some (.int .i64 k0) := heap_cell 0 _ HKC.out rfl
                have p1 : wr.cell? ⟨K, 1, none⟩ = some (.int .i64 k1) := heap_cell 1 _ HKC.out rfl
                have p2 : wr.cell? ⟨K, 2, none⟩ = some (.int .i64 k2) := heap_cell 2 _ HKC.out rfl
                have e0 : wr.cell? ⟨H + 2, 0, none⟩ = some (.int .i64 op) := heap_cell 0 _ HYVr.out.y rfl
                clear hown hcn hysT HCN HOW HKC
                go_upto_region 17 with (fail)
                clear s4 hlt
                by_cases hbad : 0 < k0 ∨ (0 < k1 ∧ 0 < k2)
                · have HEQ := Lib.hid (HT.out.trans (by rcases hbad with h | ⟨h1, h2⟩; exact rtop_not (by rw [← HC2.out.1]; exact h); exact rtop_mixed (by rw [← HC2.out.2.1]; exact h1) (by rw [← HC2.out.2.2]; exact h2)))
                  rcases hbad with hb | ⟨hb1, hb2⟩
                  · have g0 : (0 : Int) < (k0 : Int) := by omega
                    go_upto_region 18 with (fail)
                    go_wp2_with (first   | refine wpList_load_row rfl 39 _ rfl (H + 2) rfl 39 (exA op n nm fd A1 i c1 ln) (0, 0) _ HYVr.out.y Try.underlying39 rfl expr_size ?_   | refine wpList_store_row rfl 39 _ _ rfl (H + 1) (exA op n nm fd A1 i c1 ln) rfl rfl 39 _ HYVr.out.z expr_size rfl (exA_one op n nm fd A1 i c1 ln) ?_)
                    exact post_row Try.results33 rfl (setRow_heap _ _ _ _ _ _ HYVr.out.z) Try.underlying39 rfl expr_size rfl (HYVr.out.done HEQ.out HO.out HNr.out HLN.out HYL.out _)
                  · have g1 : (0 : Int) < (k1 : Int) := by omega
                    have g2 : (0 : Int) < (k2 : Int) := by omega
                    by_cases hb0 : 0 < k0
                    · have g0 : (0 : Int) < (k0 : Int) := by omega
                      go_upto_region 18 with (fail)
                      go_wp2_with (first   | refine wpList_load_row rfl 39 _ rfl (H + 2) rfl 39 (exA op n nm fd A1 i c1 ln) (0, 0) _ HYVr.out.y Try.underlying39 rfl expr_size ?_   | refine wpList_store_row rfl 39 _ _ rfl (H + 1) (exA op n nm fd A1 i c1 ln) rfl rfl 39 _ HYVr.out.z expr_size rfl (exA_one op n nm fd A1 i c1 ln) ?_)
                      exact post_row Try.results33 rfl (setRow_heap _ _ _ _ _ _ HYVr.out.z) Try.underlying39 rfl expr_size rfl (HYVr.out.done HEQ.out HO.out HNr.out HLN.out HYL.out _)
                    · have g0 : ¬ (0 : Int) < (k0 : Int) := by omega
                      go_upto_region 18 with (fail)
                      go_wp2_with (first   | refine wpList_load_row rfl 39 _ rfl (H + 2) rfl 39 (exA op n nm fd A1 i c1 ln) (0, 0) _ HYVr.out.y Try.underlying39 rfl expr_size ?_   | refine wpList_store_row rfl 39 _ _ rfl (H + 1) (exA op n nm fd A1 i c1 ln) rfl rfl 39 _ HYVr.out.z expr_size rfl (exA_one op n nm fd A1 i c1 ln) ?_)
                      exact post_row Try.results33 rfl (setRow_heap _ _ _ _ _ _ HYVr.out.z) Try.underlying39 rfl expr_size rfl (HYVr.out.done HEQ.out HO.out HNr.out HLN.out HYL.out _)
                · obtain ⟨tr, htr⟩ : ∃ tr : Bool, tr = true ∧ 0 < k2 ∧ k1 = 0 ∨ tr = false ∧ k2 = 0 := by
                    by_cases h2 : k2 = 0
                    · exact ⟨false, .inr ⟨rfl, h2⟩⟩
                    · exact ⟨true, .inl ⟨rfl, by omega, by omega⟩⟩
                  have hk00 : k0 = 0 := by omega
                  obtain ⟨R2, hR2⟩ : ∃ R, opF op (valsX ys) tr = R := ⟨_, rfl⟩
                  have HRR : Hid (I64 R2.1) := Lib.hid (by rw [← hR2]; exact opF_rng _ _ _ HVR.out)
                  have HRI : Hid (R2.2.1 = true → R2.1 ≠ -9223372036854775808) := Lib.hid (by rw [← hR2]; exact opF_is)
                  obtain ⟨r, isr, flt⟩ := R2
                  have HTA : Hid (foldE opF (.mk op n nm fd sub ln) = if flt ≠ 0 ∨ (isr = false ∧ r = -9223372036854775808) then .mk op n nm fd ys ln else madeX r isr ln) := Lib.hid (by
                    rw [HT.out, rtop_all (by omega) HCF.out (by rw [← HC2.out.1]; exact hk00) tr (by rw [← HC2.out.2.1, ← HC2.out.2.2]; exact htr), hR2])
                  have HR2 := Lib.hid hR2
                  clear hR2 HT hbad
                  have g0 : ¬ (0 : Int) < (k0 : Int) := by omega
                  rcases htr with ⟨rfl, h2, h1⟩ | ⟨rfl, h2⟩
                  · have g1 : ¬ (0 : Int) < (k1 : Int) := by omega
                    have g2 : (0 : Int) < (k2 : Int) := by omega
                    go_wp2_with fail
                    refine (rop_any op (valsX ys) true Al i cl _ HLI.out hlc (by omega) HVR.out).mono ?_
                    rintro e w6 ⟨rfl, hb6⟩
                    rw [HR2.out]
                    show _
                    simp only [opV]
                    have HYV6 := Lib.hid (HYVr.out.below hb6)
                    have g5 : w6.cell? ⟨H, 5, none⟩ = some (.int .i64 ln) := heap_cell 5 _ HYV6.out.x rfl
                    have hHl : H + 3 ≤ w6.heap.size := HYV6.out.lt
                    have hHlt : H < w6.heap.size := by omega
                    clear hb6 e0 p0 p1 p2 HLI
                    by_cases hf : flt = 0
                    · subst hf
                      by_cases hr : r = -9223372036854775808
                      · have HEQ := Lib.hid (HTA.out.trans (if_pos (.inr ⟨by cases hi : isr; rfl; exact absurd hr (HRI.out hi), hr⟩)))
                        have hrB : (r == -9223372036854775808) = true := by simp [hr]
                        clear g5 hr
                        go_upto_region 21 with (fail)
                        go_wp2_with (first   | refine wpList_load_row rfl 39 _ rfl (H + 2) rfl 39 (exA op n nm fd A1 i c1 ln) (0, 0) _ HYV6.out.y Try.underlying39 rfl expr_size ?_   | refine wpList_store_row rfl 39 _ _ rfl (H + 1) (exA op n nm fd A1 i c1 ln) rfl rfl 39 _ HYV6.out.z expr_size rfl (exA_one op n nm fd A1 i c1 ln) ?_)
                        exact post_row Try.results33 rfl (setRow_heap _ _ _ _ _ _ HYV6.out.z) Try.underlying39 rfl expr_size rfl (HYV6.out.done HEQ.out HO.out HNr.out HLN.out HYL.out _)
                      · have hrB : (r == -9223372036854775808) = false := by simp [hr]
                        cases isr
                        · have HEQ := Lib.hid (HTA.out.trans (if_neg (fun h => h.elim (fun h => h rfl) (fun h => hr h.2))))
                          by_cases h0r : 0 ≤ r
                          · have h0n : ¬ r < 0 := by omega
                            go_upto_region 26 with (fail)
                            go_wp2_with (refine wpList_store_row rfl 39 _ _ rfl (H + 1) (exA 1 r ⟨#[]⟩ ⟨#[]⟩ none 0 0 ln) rfl rfl 39 _ HYV6.out.z expr_size rfl (exA_one _ _ _ _ _ _ _ _) ?_)
                            refine post_row Try.results33 rfl (setRow_heap _ _ _ _ _ _ HYV6.out.z) Try.underlying39 rfl expr_size rfl ?_
                            rw [HEQ.out]
                            exact rmade_res1 h0r HRR.out HLN.out HYV6.out.b
                          · have h0n : r < 0 := by omega
                            go_upto_region 25 with (fail)
                            have HYV7 : ∀ cs, YV w (w6.alloc (.cells cs 39)) H op n nm fd A i cap A1 i c1 ln ys := fun cs => HYV6.out.below (below_new (Below.refl _ _) (Nat.le_refl _) _)
                            go_wp2_with (refine wpList_store_row rfl 39 _ _ rfl (H + 1) (exA 6 0 ⟨#[]⟩ ⟨#[]⟩ (some ⟨w6.heap.size, 0, none⟩) 1 1 ln) rfl rfl 39 _ (HYV7 _).z expr_size rfl (exA_one _ _ _ _ _ _ _ _) ?_)
                            refine post_row Try.results33 rfl (setRow_heap _ _ _ _ _ _ (HYV7 _).z) Try.underlying39 rfl expr_size rfl ?_
                            rw [HEQ.out]
                            refine rmade_res6 (by omega) HLN.out (HYV7 _).b hHl (by simp) ?_
                            (try simp only [IntKind.wrap_i64, RowKit.wrap64])
                            exact heap_alloc_new _ _
                        · have HEQ := Lib.hid (HTA.out.trans (if_neg (fun h => h.elim (fun h => h rfl) (fun h => absurd h.1 (by decide)))))
                          go_upto_region 23 with (fail)
                          go_wp2_with (refine wpList_store_row rfl 39 _ _ rfl (H + 1) (exA 2 r ⟨#[]⟩ ⟨#[]⟩ none 0 0 ln) rfl rfl 39 _ HYV6.out.z expr_size rfl (exA_one _ _ _ _ _ _ _ _) ?_)
                          refine post_row Try.results33 rfl (setRow_heap _ _ _ _ _ _ HYV6.out.z) Try.underlying39 rfl expr_size rfl ?_
                          rw [HEQ.out]
                          exact rmade_res2 HRR.out HLN.out HYV6.out.b
                    · have hfB : (flt == 0) = false := by simp; exact hf
                      have hfN : (flt != 0) = true := by simp; exact hf
                      have HEQ := Lib.hid (HTA.out.trans (if_pos (.inl hf)))
                      clear g5
                      go_upto_region 21 with (fail)
                      go_wp2_with (first   | refine wpList_load_row rfl 39 _ rfl (H + 2) rfl 39 (exA op n nm fd A1 i c1 ln) (0, 0) _ HYV6.out.y Try.underlying39 rfl expr_size ?_   | refine wpList_store_row rfl 39 _ _ rfl (H + 1) (exA op n nm fd A1 i c1 ln) rfl rfl 39 _ HYV6.out.z expr_size rfl (exA_one op n nm fd A1 i c1 ln) ?_)
                      exact post_row Try.results33 rfl (setRow_heap _ _ _ _ _ _ HYV6.out.z) Try.underlying39 rfl expr_size rfl (HYV6.out.done HEQ.out HO.out HNr.out HLN.out HYL.out _)
                  · have g2 : ¬ (0 : Int) < (k2 : Int) := by omega
                    by_cases h1 : 0 < k1
                    · have g1 : (0 : Int) < (k1 : Int) := by omega
                      go_wp2_with fail
                      refine (rop_any op (valsX ys) false Al i cl _ HLI.out hlc (by omega) HVR.out).mono ?_
                      rintro e w6 ⟨rfl, hb6⟩
                      rw [HR2.out]
                      show _
                      simp only [opV]
                      have HYV6 := Lib.hid (HYVr.out.below hb6)
                      have g5 : w6.cell? ⟨H, 5, none⟩ = some (.int .i64 ln) := heap_cell 5 _ HYV6.out.x rfl
                      have hHl : H + 3 ≤ w6.heap.size := HYV6.out.lt
                      have hHlt : H < w6.heap.size := by omega
                      clear hb6 e0 p0 p1 p2 HLI
                      by_cases hf : flt = 0
                      · subst hf
                        by_cases hr : r = -9223372036854775808
                        · have HEQ := Lib.hid (HTA.out.trans (if_pos (.inr ⟨by cases hi : isr; rfl; exact absurd hr (HRI.out hi), hr⟩)))
                          have hrB : (r == -9223372036854775808) = true := by simp [hr]
                          clear g5 hr
                          go_upto_region 21 with (fail)
                          go_wp2_with (first   | refine wpList_load_row rfl 39 _ rfl (H + 2) rfl 39 (exA op n nm fd A1 i c1 ln) (0, 0) _ HYV6.out.y Try.underlying39 rfl expr_size ?_   | refine wpList_store_row rfl 39 _ _ rfl (H + 1) (exA op n nm fd A1 i c1 ln) rfl rfl 39 _ HYV6.out.z expr_size rfl (exA_one op n nm fd A1 i c1 ln) ?_)
                          exact post_row Try.results33 rfl (setRow_heap _ _ _ _ _ _ HYV6.out.z) Try.underlying39 rfl expr_size rfl (HYV6.out.done HEQ.out HO.out HNr.out HLN.out HYL.out _)
                        · have hrB : (r == -9223372036854775808) = false := by simp [hr]
                          cases isr
                          · have HEQ := Lib.hid (HTA.out.trans (if_neg (fun h => h.elim (fun h => h rfl) (fun h => hr h.2))))
                            by_cases h0r : 0 ≤ r
                            · have h0n : ¬ r < 0 := by omega
                              go_upto_region 26 with (fail)
                              go_wp2_with (refine wpList_store_row rfl 39 _ _ rfl (H + 1) (exA 1 r ⟨#[]⟩ ⟨#[]⟩ none 0 0 ln) rfl rfl 39 _ HYV6.out.z expr_size rfl (exA_one _ _ _ _ _ _ _ _) ?_)
                              refine post_row Try.results33 rfl (setRow_heap _ _ _ _ _ _ HYV6.out.z) Try.underlying39 rfl expr_size rfl ?_
                              rw [HEQ.out]
                              exact rmade_res1 h0r HRR.out HLN.out HYV6.out.b
                            · have h0n : r < 0 := by omega
                              go_upto_region 25 with (fail)
                              have HYV7 : ∀ cs, YV w (w6.alloc (.cells cs 39)) H op n nm fd A i cap A1 i c1 ln ys := fun cs => HYV6.out.below (below_new (Below.refl _ _) (Nat.le_refl _) _)
                              go_wp2_with (refine wpList_store_row rfl 39 _ _ rfl (H + 1) (exA 6 0 ⟨#[]⟩ ⟨#[]⟩ (some ⟨w6.heap.size, 0, none⟩) 1 1 ln) rfl rfl 39 _ (HYV7 _).z expr_size rfl (exA_one _ _ _ _ _ _ _ _) ?_)
                              refine post_row Try.results33 rfl (setRow_heap _ _ _ _ _ _ (HYV7 _).z) Try.underlying39 rfl expr_size rfl ?_
                              rw [HEQ.out]
                              refine rmade_res6 (by omega) HLN.out (HYV7 _).b hHl (by simp) ?_
                              (try simp only [IntKind.wrap_i64, RowKit.wrap64])
                              exact heap_alloc_new _ _
                          · have HEQ := Lib.hid (HTA.out.trans (if_neg (fun h => h.elim (fun h => h rfl) (fun h => absurd h.1 (by decide)))))
                            go_upto_region 23 with (fail)
                            go_wp2_with (refine wpList_store_row rfl 39 _ _ rfl (H + 1) (exA 2 r ⟨#[]⟩ ⟨#[]⟩ none 0 0 ln) rfl rfl 39 _ HYV6.out.z expr_size rfl (exA_one _ _ _ _ _ _ _ _) ?_)
                            refine post_row Try.results33 rfl (setRow_heap _ _ _ _ _ _ HYV6.out.z) Try.underlying39 rfl expr_size rfl ?_
                            rw [HEQ.out]
                            exact rmade_res2 HRR.out HLN.out HYV6.out.b
                      · have hfB : (flt == 0) = false := by simp; exact hf
                        have hfN : (flt != 0) = true := by simp; exact hf
                        have HEQ := Lib.hid (HTA.out.trans (if_pos (.inl hf)))
                        clear g5
                        go_upto_region 21 with (fail)
                        go_wp2_with (first   | refine wpList_load_row rfl 39 _ rfl (H + 2) rfl 39 (exA op n nm fd A1 i c1 ln) (0, 0) _ HYV6.out.y Try.underlying39 rfl expr_size ?_   | refine wpList_store_row rfl 39 _ _ rfl (H + 1) (exA op n nm fd A1 i c1 ln) rfl rfl 39 _ HYV6.out.z expr_size rfl (exA_one op n nm fd A1 i c1 ln) ?_)
                        exact post_row Try.results33 rfl (setRow_heap _ _ _ _ _ _ HYV6.out.z) Try.underlying39 rfl expr_size rfl (HYV6.out.done HEQ.out HO.out HNr.out HLN.out HYL.out _)
                    · have g1 : ¬ (0 : Int) < (k1 : Int) := by omega
                      go_wp2_with fail
                      refine (rop_any op (valsX ys) false Al i cl _ HLI.out hlc (by omega) HVR.out).mono ?_
                      rintro e w6 ⟨rfl, hb6⟩
                      rw [HR2.out]
                      show _
                      simp only [opV]
                      have HYV6 := Lib.hid (HYVr.out.below hb6)
                      have g5 : w6.cell? ⟨H, 5, none⟩ = some (.int .i64 ln) := heap_cell 5 _ HYV6.out.x rfl
                      have hHl : H + 3 ≤ w6.heap.size := HYV6.out.lt
                      have hHlt : H < w6.heap.size := by omega
                      clear hb6 e0 p0 p1 p2 HLI
                      by_cases hf : flt = 0
                      · subst hf
                        by_cases hr : r = -9223372036854775808
                        · have HEQ := Lib.hid (HTA.out.trans (if_pos (.inr ⟨by cases hi : isr; rfl; exact absurd hr (HRI.out hi), hr⟩)))
                          have hrB : (r == -9223372036854775808) = true := by simp [hr]
                          clear g5 hr
                          go_upto_region 21 with (fail)
                          go_wp2_with (first   | refine wpList_load_row rfl 39 _ rfl (H + 2) rfl 39 (exA op n nm fd A1 i c1 ln) (0, 0) _ HYV6.out.y Try.underlying39 rfl expr_size ?_   | refine wpList_store_row rfl 39 _ _ rfl (H + 1) (exA op n nm fd A1 i c1 ln) rfl rfl 39 _ HYV6.out.z expr_size rfl (exA_one op n nm fd A1 i c1 ln) ?_)
                          exact post_row Try.results33 rfl (setRow_heap _ _ _ _ _ _ HYV6.out.z) Try.underlying39 rfl expr_size rfl (HYV6.out.done HEQ.out HO.out HNr.out HLN.out HYL.out _)
                        · have hrB : (r == -9223372036854775808) = false := by simp [hr]
                          cases isr
                          · have HEQ := Lib.hid (HTA.out.trans (if_neg (fun h => h.elim (fun h => h rfl) (fun h => hr h.2))))
                            by_cases h0r : 0 ≤ r
                            · have h0n : ¬ r < 0 := by omega
                              go_upto_region 26 with (fail)
                              go_wp2_with (refine wpList_store_row rfl 39 _ _ rfl (H + 1) (exA 1 r ⟨#[]⟩ ⟨#[]⟩ none 0 0 ln) rfl rfl 39 _ HYV6.out.z expr_size rfl (exA_one _ _ _ _ _ _ _ _) ?_)
                              refine post_row Try.results33 rfl (setRow_heap _ _ _ _ _ _ HYV6.out.z) Try.underlying39 rfl expr_size rfl ?_
                              rw [HEQ.out]
                              exact rmade_res1 h0r HRR.out HLN.out HYV6.out.b
                            · have h0n : r < 0 := by omega
                              go_upto_region 25 with (fail)
                              have HYV7 : ∀ cs, YV w (w6.alloc (.cells cs 39)) H op n nm fd A i cap A1 i c1 ln ys := fun cs => HYV6.out.below (below_new (Below.refl _ _) (Nat.le_refl _) _)
                              go_wp2_with (refine wpList_store_row rfl 39 _ _ rfl (H + 1) (exA 6 0 ⟨#[]⟩ ⟨#[]⟩ (some ⟨w6.heap.size, 0, none⟩) 1 1 ln) rfl rfl 39 _ (HYV7 _).z expr_size rfl (exA_one _ _ _ _ _ _ _ _) ?_)
                              refine post_row Try.results33 rfl (setRow_heap _ _ _ _ _ _ (HYV7 _).z) Try.underlying39 rfl expr_size rfl ?_
                              rw [HEQ.out]
                              refine rmade_res6 (by omega) HLN.out (HYV7 _).b hHl (by simp) ?_
                              (try simp only [IntKind.wrap_i64, RowKit.wrap64])
                              exact heap_alloc_new _ _
                          · have HEQ := Lib.hid (HTA.out.trans (if_neg (fun h => h.elim (fun h => h rfl) (fun h => absurd h.1 (by decide)))))
                            go_upto_region 23 with (fail)
                            go_wp2_with (refine wpList_store_row rfl 39 _ _ rfl (H + 1) (exA 2 r ⟨#[]⟩ ⟨#[]⟩ none 0 0 ln) rfl rfl 39 _ HYV6.out.z expr_size rfl (exA_one _ _ _ _ _ _ _ _) ?_)
                            refine post_row Try.results33 rfl (setRow_heap _ _ _ _ _ _ HYV6.out.z) Try.underlying39 rfl expr_size rfl ?_
                            rw [HEQ.out]
                            exact rmade_res2 HRR.out HLN.out HYV6.out.b
                      · have hfB : (flt == 0) = false := by simp; exact hf
                        have hfN : (flt != 0) = true := by simp; exact hf
                        have HEQ := Lib.hid (HTA.out.trans (if_pos (.inl hf)))
                        clear g5
                        go_upto_region 21 with (fail)
                        go_wp2_with (first   | refine wpList_load_row rfl 39 _ rfl (H + 2) rfl 39 (exA op n nm fd A1 i c1 ln) (0, 0) _ HYV6.out.y Try.underlying39 rfl expr_size ?_   | refine wpList_store_row rfl 39 _ _ rfl (H + 1) (exA op n nm fd A1 i c1 ln) rfl rfl 39 _ HYV6.out.z expr_size rfl (exA_one op n nm fd A1 i c1 ln) ?_)
                        exact post_row Try.results33 rfl (setRow_heap _ _ _ _ _ _ HYV6.out.z) Try.underlying39 rfl expr_size rfl (HYV6.out.done HEQ.out HO.out HNr.out HLN.out HYL.out _)

end Go.Proofs.Ytcamegfnhbbaeaa
