/- Merged: Layer 21: a program folded. Equal programs are the same. PRINTED by wip/tool/mksamep.py -/
import Derived.Test.YtcamegfnhbbaeaaM23
import Derived.Laws.CopyOwn
import Derived.Test.YtcamegfnhbbaeaaTreeZ
namespace Go.Proofs.Ytcamegfnhbbaeaa
open Go.RowKit
set_option linter.unusedVariables false
set_option linter.unusedSimpArgs false
attribute [local go_sem] ite_max ite_min vite_max vite_min ext_cell ext_frozen

def foldP (p : Prg) : Prg := ⟨p.name, p.vars, foldSs opF p.body⟩
/-- a program is handed back -/
def PrgRes (p : Prg) (e : Ending) (w' : World) : Prop := ∃ Av kv Ab kb, e = .returned (.agg #[.string p.name, .slice Av p.vars.length kv, .slice Ab p.body.length kb]) ∧ RowV w' Av p.vars kv ∧ RowT w' Ab p.body kb
theorem moves_all (w : World) : Moves w (only w fun _ => true) := ⟨by rw [only_size]; exact Nat.le_refl _, fun b o v h => by rw [cell_only rfl]; exact h⟩
theorem moves_old {w W : World} (h : Below w.heap.size w W) : Moves w (only W fun i => decide (i < w.heap.size)) :=
  ⟨by rw [only_size]; exact h.size, fun b o v hv => by
    have hl := cell_lt hv
    rw [cell_only (by simpa using hl)]
    exact (h.cell (p := ⟨b, o, none⟩) hl).trans hv⟩
theorem prog_size : (Try.prog.info? 30).map (·.size) = some 3 := by kernel_rfl
def prA (s : ByteArray) (Av : Option Addr) (n kv : Nat) (Ab : Option Addr) (m kb : Nat) : Array Value := #[.string s, .slice Av n kv, .slice Ab m kb]
theorem prA_one (s : ByteArray) (Av : Option Addr) (n kv : Nat) (Ab : Option Addr) (m kb : Nat) : (prA s Av n kv Ab m kb).all (·.oneCell') = true := by simp [prA, Value.oneCell']

set_option maxRecDepth 100000 in
set_option maxHeartbeats 2000000 in
theorem fprog_any (p : Prg) (w : World) (Av Ab : Option Addr) (kv kb : Nat) (hv : RowV w Av p.vars kv) (hb : RowT w Ab p.body kb) :
    Calls Try.prog 14 #[.agg #[.string p.name, .slice Av p.vars.length kv, .slice Ab p.body.length kb]] w fun e w' => PrgRes (foldP p) e w' ∧ Below w.heap.size w w' := by
  have HC : Hid (∀ W, Below w.heap.size w W → Calls Try.prog 35 #[.slice Ab p.body.length kb] W fun e w' => StRes W.heap.size (fun i => decide (i < w.heap.size)) (foldSs opF p.body) e w' ∧ Below W.heap.size W w') := Lib.hid (fun W hW => fstmts_any _ p.body (Nat.lt_succ_self _) (fun i => decide (i < w.heap.size)) W Ab kb (hb.move (moves_old hW)))
  have HV := Lib.hid hv
  obtain ⟨nv, hnv⟩ : ∃ n, p.vars.length = n := ⟨_, rfl⟩
  obtain ⟨nb, hnb⟩ : ∃ n, p.body.length = n := ⟨_, rfl⟩
  have HNV := Lib.hid hnv
  rw [hnb] at HC
  rw [hnv, hnb]
  clear hv hb hnv hnb
  go_enter Try.func14, Try.ntmps14
  go_wp2_with fail
  refine (HC.out _ (by (repeat' (first | (with_reducible exact Below.refl _ _) | (with_reducible assumption) | (with_reducible refine below_drewN ?_ _) | (with_reducible refine Below.drew ?_) | (with_reducible refine below_new ?_ (Nat.le_refl _) _) | (with_reducible refine Below.setCell ?_ ?_ _) | (with_reducible refine below_go ?_ (by assumption) (Nat.le_refl _)) | (simp; done) | (simp; omega) | omega)))).mono ?_
  rintro e w1 ⟨⟨A2, c2, rfl, hr2⟩, hb1⟩
  obtain ⟨ys, hys⟩ : ∃ ys, foldSs opF p.body = ys := ⟨_, rfl⟩
  rw [hys] at hr2 ⊢
  have HYS := Lib.hid hys
  have hX : w1.heap[w.heap.size]? = some (.cells (prA p.name Av nv kv Ab nb kb) 30) := (hb1.block _ (by simp; omega)).trans ((heap_alloc_old _ _ (by simp)).trans (heap_alloc_new _ _))
  have hZ : w1.heap[w.heap.size + 1]? = some (.cells (prA ⟨#[]⟩ none 0 0 none 0 0) 30) := (hb1.block _ (by simp)).trans (by
    have := heap_alloc_new (w.alloc (.cells (prA p.name Av nv kv Ab nb kb) 30)) (.cells (prA ⟨#[]⟩ none 0 0 none 0 0) 30)
    rw [World.size_alloc] at this
    exact this)
  have hB1 : Below w.heap.size w w1 := by (repeat' (first | (with_reducible exact Below.refl _ _) | (with_reducible assumption) | (with_reducible refine below_drewN ?_ _) | (with_reducible refine Below.drew ?_) | (with_reducible refine below_new ?_ (Nat.le_refl _) _) | (with_reducible refine Below.setCell ?_ ?_ _) | (with_reducible refine below_go ?_ (by assumption) (Nat.le_refl _)) | (simp; done) | (simp; omega) | omega))
  have hs1 := hB1.size
  have HR2 := Lib.hid hr2
  have HX := Lib.hid hX
  have HZ := Lib.hid hZ
  have HB1 := Lib.hid hB1
  have hc2 : w1.cell? ⟨w.heap.size, 2, none⟩ = some (.slice Ab nb kb) := heap_cell 2 _ hX rfl
  have hf2 : w1.frozen? ⟨w.heap.size, 2, none⟩ = false := heap_free 2 hX
  have hsz : w.heap.size + 2 ≤ w1.heap.size := by have := (Array.getElem?_eq_some_iff.1 hZ).1; omega
  clear hr2 hb1 hB1 hX hZ hys
  go_upto_region 2 with (fail)
  refine wp_name fun W2 hW2 => ?_
  have hX2 : W2.heap[w.heap.size]? = some (.cells (prA p.name Av nv kv A2 ys.length c2) 30) := by
    rw [hW2.out, setCell_eq_setRow _ _ _ _ _ _ _ HX.out]
    exact setRow_heap _ _ _ _ _ _ HX.out
  have hZ2 : W2.heap[w.heap.size + 1]? = some (.cells (prA ⟨#[]⟩ none 0 0 none 0 0) 30) := by
    rw [hW2.out, heap_setCell_other _ _ _ _ (by simp)]
    exact HZ.out
  have hB2 : Below w.heap.size w W2 := by
    rw [hW2.out]
    exact HB1.out.setCell (by simp) _
  have HX2 := Lib.hid hX2
  have HZ2 := Lib.hid hZ2
  have HB2 := Lib.hid hB2
  have HRES : Hid (RowT (W2.setRow (w.heap.size + 1) (prA p.name Av nv kv A2 ys.length c2)) A2 ys c2) := Lib.hid (by
    refine HR2.out.move (.trans (.onlyW (w' := W2.setRow (w.heap.size + 1) (prA p.name Av nv kv A2 ys.length c2)) (q := fun _ => true) (by rw [hW2.out]; simp [World.setRow]) fun b _ hp => ?_) (Moves.only _ _))
    rw [orNew_iff] at hp
    simp only [World.size_alloc, decide_eq_true_eq] at hp
    refine ⟨rfl, ?_⟩
    rw [setRow_other _ _ _ _ (by omega), hW2.out, heap_setCell_other _ _ _ _ (by show b ≠ w.heap.size; omega)])
  clear hW2 hX2 hZ2 hB2 hc2 hf2 HX HZ HB1
  go_wp2_with (first
    | refine wpList_load_row rfl 30 _ rfl w.heap.size rfl 30 (prA p.name Av nv kv A2 ys.length c2) (0, 0) _ HX2.out Try.underlying30 rfl prog_size ?_
    | refine wpList_store_row rfl 30 _ _ rfl (w.heap.size + 1) (prA p.name Av nv kv A2 ys.length c2) rfl rfl 30 _ HZ2.out prog_size rfl (prA_one _ _ _ _ _ _ _) ?_)
  have hBE : Below w.heap.size w (W2.setRow (w.heap.size + 1) (prA p.name Av nv kv A2 ys.length c2)) := below_setRow HB2.out (by omega) _
  refine post_row Try.results14 rfl (setRow_heap _ _ _ _ _ _ HZ2.out) Try.underlying30 rfl prog_size rfl ⟨?_, hBE⟩
  refine ⟨Av, kv, A2, c2, ?_, HV.out.below hBE, ?_⟩
  · show Ending.returned (.agg (prA p.name Av nv kv A2 ys.length c2)) = _
    unfold foldP
    rw [HYS.out]
    show _ = Ending.returned (.agg (prA p.name Av p.vars.length kv A2 ys.length c2))
    rw [HNV.out]
  · show RowT _ A2 (foldSs opF p.body) c2
    rw [HYS.out]
    exact HRES.out

end Go.Proofs.Ytcamegfnhbbaeaa

namespace Go.Proofs.Ytcamegfnhbbaeaa
open Go.RowKit
set_option linter.unusedVariables false
set_option linter.unusedSimpArgs false
attribute [local go_sem] ite_max ite_min vite_max vite_min ext_cell ext_frozen extS_cell extS_frozen

theorem var_size : (Try.prog.info? 53).map (·.size) = some 8 := by kernel_rfl
theorem var_one (v : VarS) : v.cells.toArray.all (·.oneCell') = true := by simp [VarS.cells, Value.oneCell']
def var0 : Array Value := #[.string ⟨#[]⟩, .int .i64 0, .int .i64 0, .bool false, .int .i64 0, .int .i64 0, .int .i64 0, .int .i64 0]
/-- two programs in their variables, and a variable of each -/
structure PairV (w : World) (H : Nat) (A : Option Addr) (k1 : Nat) (B : Option Addr) (k2 n b1 o1 b2 o2 : Nat) (v : VarS) : Prop where
  c1 : w.cell? ⟨H, 1, none⟩ = some (.slice A n k1)
  c2 : w.cell? ⟨H + 1, 1, none⟩ = some (.slice B n k2)
  r1 : w.rangeAt b1 o1 v.cells
  r2 : w.rangeAt b2 o2 v.cells
theorem PairV.below {w w' : World} {H : Nat} {A : Option Addr} {k1 : Nat} {B : Option Addr} {k2 n b1 o1 b2 o2 : Nat} {v : VarS} (h : PairV w H A k1 B k2 n b1 o1 b2 o2 v) (hb : Below w.heap.size w w') : PairV w' H A k1 B k2 n b1 o1 b2 o2 v :=
  ⟨(hb.cell (p := ⟨H, 1, none⟩) (cell_lt h.c1)).trans h.c1, (hb.cell (p := ⟨H + 1, 1, none⟩) (cell_lt h.c2)).trans h.c2, range_below h.r1 hb, range_below h.r2 hb⟩
theorem RowV.at {w : World} {A : Option Addr} {xs : List VarS} {cap : Nat} (h : RowV w A xs cap) {i : Nat} (hi : i < xs.length) : ∃ b off v, A = some ⟨b, off, none⟩ ∧ b < w.heap.size ∧ xs[i]? = some v ∧ v.Ok ∧ w.rangeAt b (off + i * 8) v.cells := by
  obtain ⟨b, off, v, cs, hA, hb, hv, ⟨rfl, hok⟩, hc⟩ := RowOf.at h hi
  refine ⟨b, off, v, hA, hb, hv, hok, fun j u hu => ?_⟩
  have hj : j < 8 := (List.getElem?_eq_some_iff.1 hu).1
  rw [hc j hj]
  exact hu

set_option maxRecDepth 100000 in
set_option maxHeartbeats 4000000 in
theorem same18_any (p : Prg) (w : World) (A1 A2 B1 B2 : Option Addr) (k1 k2 l1 l2 : Nat) (hv1 : RowV w A1 p.vars k1) (hb1 : RowT w A2 p.body l1) (hv2 : RowV w B1 p.vars k2) (hb2 : RowT w B2 p.body l2) :
    Calls Try.prog 13 #[.agg #[.string p.name, .slice A1 p.vars.length k1, .slice A2 p.body.length l1], .agg #[.string p.name, .slice B1 p.vars.length k2, .slice B2 p.body.length l2], .bool true] w fun e w' => e = .returned (.bool true) ∧ Below w.heap.size w w' := by
  have HC : Hid (∀ W, Below w.heap.size w W → Calls Try.prog 34 #[.slice A2 p.body.length l1, .slice B2 p.body.length l2, .bool true] W fun e w' => e = .returned (.bool true) ∧ Below W.heap.size W w') := Lib.hid (fun W hW => sameStmts_any _ p.body (Nat.lt_succ_self _) W _ _ _ _ _ (hb1.below hW) (hb2.below hW))
  have HV1 := Lib.hid hv1
  have HV2 := Lib.hid hv2
  have hl1 := hv1.1
  have hc1 := hv1.2.1
  have hl2 := hv2.1
  have hc2 := hv2.2.1
  obtain ⟨n, hn⟩ : ∃ n, p.vars.length = n := ⟨_, rfl⟩
  rw [hn] at hl1 hl2 ⊢
  have HN := Lib.hid hn
  clear hv1 hv2 hb1 hb2 hn
  go_enter Try.func13, Try.ntmps13
  go_wp2_with fail
  refine wp_name fun W hW => ?_
  obtain ⟨H0, hH⟩ : ∃ H, w.heap.size = H := ⟨_, rfl⟩
  have hB : Below w.heap.size w W := by rw [hW.out]; (repeat' (first | (with_reducible exact Below.refl _ _) | (with_reducible assumption) | (with_reducible refine below_drewN ?_ _) | (with_reducible refine Below.drew ?_) | (with_reducible refine below_new ?_ (Nat.le_refl _) _) | (with_reducible refine Below.setCell ?_ ?_ _) | (with_reducible refine below_go ?_ (by assumption) (Nat.le_refl _)) | (simp; done) | (simp; omega) | omega))
  have c1 : W.cell? ⟨H0, 1, none⟩ = some (.slice A1 n k1) := by rw [hW.out, ← hH]; go_simp
  have c2 : W.cell? ⟨H0 + 1, 1, none⟩ = some (.slice B1 n k2) := by rw [hW.out, ← hH]; go_simp
  have c3 : W.cell? ⟨H0, 2, none⟩ = some (.slice A2 p.body.length l1) := by rw [hW.out, ← hH]; go_simp
  have c4 : W.cell? ⟨H0 + 1, 2, none⟩ = some (.slice B2 p.body.length l2) := by rw [hW.out, ← hH]; go_simp
  have hlt0 : H0 + 1 < W.heap.size := by rw [hW.out, ← hH]; simp
  rw [hH]
  have HC1 := Lib.hid c1
  have HC2 := Lib.hid c2
  have HC3 := Lib.hid c3
  have HC4 := Lib.hid c4
  have HB := Lib.hid hB
  clear hW hH hB c1 c2 c3 c4
  go_loopw [7] (fun vi wr => ∃ (i : Nat), i ≤ n ∧ vi = .int .i64 i ∧ Below W.heap.size W wr) (fun vi _ => n - (intOf vi).toNat)
  case atStart => exact ⟨0, by omega, rfl, Below.refl _ _⟩
  case round =>
    obtain ⟨i, hi, rfl, hbr⟩ := hrel
    have hz := hbr.size
    have c1 := (hbr.cell (p := ⟨H0, 1, none⟩) (by show H0 < _; omega)).trans HC1.out
    by_cases hlt : i < n
    · obtain ⟨b1, o1, v, rfl, hbl1, hx1, hok, r1⟩ := RowV.at (HV1.out.below (HB.out.trans (hbr.mono HB.out.size))) (i := i) (by rw [HN.out]; exact hlt)
      obtain ⟨b2, o2, v', rfl, hbl2, hx2, hok2, r2⟩ := RowV.at (HV2.out.below (HB.out.trans (hbr.mono HB.out.size))) (i := i) (by rw [HN.out]; exact hlt)
      obtain rfl : v = v' := by rw [hx1] at hx2; exact Option.some.inj hx2
      have hi0 : (0 : Int) ≤ (i : Int) ∧ (i : Int) < (n : Int) := by omega
      have HS : Hid (PairV wr H0 (some ⟨b1, o1, none⟩) k1 (some ⟨b2, o2, none⟩) k2 n b1 (o1 + i * 8) b2 (o2 + i * 8) v) := Lib.hid ⟨c1, (hbr.cell (p := ⟨H0 + 1, 1, none⟩) (by show H0 + 1 < _; omega)).trans HC2.out, r1, r2⟩
      have HBR := Lib.hid hbr
      clear hx1 hx2 hbr hok hok2
      go_upto_region 6 with (fail)
      clear c1
      refine wp_region_held_drew (S := fun w' => PairV w' H0 (some ⟨b1, o1, none⟩) k1 (some ⟨b2, o2, none⟩) k2 n b1 (o1 + i * 8) b2 (o2 + i * 8) v) (by kernel_rfl) (PairV.below (w := wr) HS.out (by (repeat' (first | (with_reducible exact Below.refl _ _) | (with_reducible assumption) | (with_reducible refine below_drewN ?_ _) | (with_reducible refine Below.drew ?_) | (with_reducible refine below_new ?_ (Nat.le_refl _) _) | (with_reducible refine Below.setCell ?_ ?_ _) | (with_reducible refine below_go ?_ (by assumption) (Nat.le_refl _)) | (simp; done) | (simp; omega) | omega)))) (fun hHeld => ?_)
      (refine takeH (i := 0) (v := ?_) rfl (by kernel_rfl) (by kernel_rfl) (by kernel_rfl) (fun _ _ _ h => h) (Or.inl ⟨by first | kernel_rfl | rfl, ?_⟩) (by assumption) ?_; rotate_left; focus (intro w' hSw; (have q1 := hSw.c1); (have q2 := hSw.c2); go_simp; try (with_reducible rfl)); (try simp only [Act.put, List.setIfInBounds_toArray, List.set_cons_zero, List.set_cons_succ]))
      (refine takeH (i := 1) (v := ?_) rfl (by kernel_rfl) (by kernel_rfl) (by kernel_rfl) (fun _ _ _ h => h) (Or.inl ⟨by first | kernel_rfl | rfl, ?_⟩) (by assumption) ?_; rotate_left; focus (intro w' hSw; (have q1 := hSw.c1); (have q2 := hSw.c2); go_simp; try (with_reducible rfl)); (try simp only [Act.put, List.setIfInBounds_toArray, List.set_cons_zero, List.set_cons_succ]))
      (refine takeH (i := 2) (v := ?_) rfl (by kernel_rfl) (by kernel_rfl) (by kernel_rfl) (fun _ _ _ h => h) (Or.inl ⟨by first | kernel_rfl | rfl, ?_⟩) (by assumption) ?_; rotate_left; focus (intro w' hSw; (have q1 := hSw.c1); (have q2 := hSw.c2); go_simp; try (with_reducible rfl)); (try simp only [Act.put, List.setIfInBounds_toArray, List.set_cons_zero, List.set_cons_succ]))
      (refine takeH (i := 3) (v := ?_) rfl (by kernel_rfl) (by kernel_rfl) (by kernel_rfl) (fun _ _ _ h => h) (Or.inl ⟨by first | kernel_rfl | rfl, ?_⟩) (by assumption) ?_; rotate_left; focus (intro w' hSw; (have q1 := hSw.c1); (have q2 := hSw.c2); go_simp; try (with_reducible rfl)); (try simp only [Act.put, List.setIfInBounds_toArray, List.set_cons_zero, List.set_cons_succ]))
      (refine takeH (i := 4) rfl (by kernel_rfl) (by kernel_rfl) (by kernel_rfl) (fun _ _ _ h => h) (yieldsIf_load_mid (by first | kernel_rfl | rfl) 53 _ rfl b1 (o1 + i * 8) rfl v.cells _ (fun _ h => h.r1) Try.underlying53 rfl var_size) (by assumption) ?_; (try simp only [Act.put, List.setIfInBounds_toArray, List.set_cons_zero, List.set_cons_succ]))
      (refine takeH (i := 5) (v := ?_) rfl (by kernel_rfl) (by kernel_rfl) (by kernel_rfl) (fun _ _ _ h => h) (Or.inl ⟨by first | kernel_rfl | rfl, ?_⟩) (by assumption) ?_; rotate_left; focus (intro w' hSw; (have q1 := hSw.c1); (have q2 := hSw.c2); go_simp; try (with_reducible rfl)); (try simp only [Act.put, List.setIfInBounds_toArray, List.set_cons_zero, List.set_cons_succ]))
      (refine takeH (i := 6) (v := ?_) rfl (by kernel_rfl) (by kernel_rfl) (by kernel_rfl) (fun _ _ _ h => h) (Or.inl ⟨by first | kernel_rfl | rfl, ?_⟩) (by assumption) ?_; rotate_left; focus (intro w' hSw; (have q1 := hSw.c1); (have q2 := hSw.c2); go_simp; try (with_reducible rfl)); (try simp only [Act.put, List.setIfInBounds_toArray, List.set_cons_zero, List.set_cons_succ]))
      (refine takeH (i := 7) (v := ?_) rfl (by kernel_rfl) (by kernel_rfl) (by kernel_rfl) (fun _ _ _ h => h) (Or.inl ⟨by first | kernel_rfl | rfl, ?_⟩) (by assumption) ?_; rotate_left; focus (intro w' hSw; (have q1 := hSw.c1); (have q2 := hSw.c2); go_simp; try (with_reducible rfl)); (try simp only [Act.put, List.setIfInBounds_toArray, List.set_cons_zero, List.set_cons_succ]))
      (refine takeH (i := 8) (v := ?_) rfl (by kernel_rfl) (by kernel_rfl) (by kernel_rfl) (fun _ _ _ h => h) (Or.inl ⟨by first | kernel_rfl | rfl, ?_⟩) (by assumption) ?_; rotate_left; focus (intro w' hSw; (have q1 := hSw.c1); (have q2 := hSw.c2); go_simp; try (with_reducible rfl)); (try simp only [Act.put, List.setIfInBounds_toArray, List.set_cons_zero, List.set_cons_succ]))
      (refine takeH (i := 9) rfl (by kernel_rfl) (by kernel_rfl) (by kernel_rfl) (fun _ _ _ h => h) (yieldsIf_load_mid (by first | kernel_rfl | rfl) 53 _ rfl b2 (o2 + i * 8) rfl v.cells _ (fun _ h => h.r2) Try.underlying53 rfl var_size) (by assumption) ?_; (try simp only [Act.put, List.setIfInBounds_toArray, List.set_cons_zero, List.set_cons_succ]))
      refine wpAnyH_ready (rs := [10, 11]) (by kernel_rfl) (by simp) (AllReadyH.cons rfl (fun K hK => ?_) (AllReadyH.cons rfl (fun K hK => ?_) AllReadyH.nil))
      · go_simp
        refine hK.out _ _ ?_ (fun hHeld2 => ?_)
        · exact PairV.below (w := wr) HS.out (by (repeat' (first | (with_reducible exact Below.refl _ _) | (with_reducible assumption) | (with_reducible refine below_drewN ?_ _) | (with_reducible refine Below.drew ?_) | (with_reducible refine below_new ?_ (Nat.le_refl _) _) | (with_reducible refine Below.setCell ?_ ?_ _) | (with_reducible refine below_go ?_ (by assumption) (Nat.le_refl _)) | (simp; done) | (simp; omega) | omega)))
        clear hK K hHeld
        have hHeld := hHeld2
        clear hHeld2
        (try simp only [Act.put, List.setIfInBounds_toArray, List.set_cons_zero, List.set_cons_succ])
        refine oneH (i := 11) (by kernel_rfl) rfl (fun K hK => ?_)
        go_simp
        refine hK.out _ _ ?_ (fun hHeld2 => ?_)
        · exact PairV.below (w := wr) HS.out (by (repeat' (first | (with_reducible exact Below.refl _ _) | (with_reducible assumption) | (with_reducible refine below_drewN ?_ _) | (with_reducible refine Below.drew ?_) | (with_reducible refine below_new ?_ (Nat.le_refl _) _) | (with_reducible refine Below.setCell ?_ ?_ _) | (with_reducible refine below_go ?_ (by assumption) (Nat.le_refl _)) | (simp; done) | (simp; omega) | omega)))
        clear hK K hHeld hHeld2
        (try simp only [Act.put, List.setIfInBounds_toArray, List.set_cons_zero, List.set_cons_succ])
        obtain ⟨W, hW⟩ : ∃ W, ((wr.alloc (.cells var0 53)).alloc (.cells var0 53)).drew = W := ⟨_, rfl⟩
        rw [show ((wr.alloc (.cells #[.string ⟨#[]⟩, .int .i64 0, .int .i64 0, .bool false, .int .i64 0, .int .i64 0, .int .i64 0, .int .i64 0] 53)).alloc (.cells #[.string ⟨#[]⟩, .int .i64 0, .int .i64 0, .bool false, .int .i64 0, .int .i64 0, .int .i64 0, .int .i64 0] 53)).drew = W from hW]
        obtain ⟨H, hH⟩ : ∃ H, wr.heap.size = H := ⟨_, rfl⟩
        have hBW : Below wr.heap.size wr W := by rw [← hW]; (repeat' (first | (with_reducible exact Below.refl _ _) | (with_reducible assumption) | (with_reducible refine below_drewN ?_ _) | (with_reducible refine Below.drew ?_) | (with_reducible refine below_new ?_ (Nat.le_refl _) _) | (with_reducible refine Below.setCell ?_ ?_ _) | (with_reducible refine below_go ?_ (by assumption) (Nat.le_refl _)) | (simp; done) | (simp; omega) | omega))
        have h0 : W.heap[H]? = some (.cells var0 53) := by rw [← hW, ← hH]; exact (heap_alloc_old _ _ (by simp)).trans (heap_alloc_new _ _)
        have h1 : W.heap[H + 1]? = some (.cells var0 53) := by rw [← hW, ← hH]; have := heap_alloc_new (wr.alloc (.cells var0 53)) (.cells var0 53); rw [World.size_alloc] at this; exact this
        rw [hH]
        have hHle : wr.heap.size ≤ H := by omega
        have hHge : H ≤ wr.heap.size := by omega
        clear hW hH
        have hB5 : Below wr.heap.size wr (W.setRow (H) v.cells.toArray) := below_setRow hBW (by omega) _
        have h9' : (W.setRow (H) v.cells.toArray).heap[H + 1]? = some (.cells var0 53) := (setRow_other _ _ _ _ (by omega)).trans h1
        obtain ⟨W5, hW5⟩ : ∃ W5, W.setRow (H) v.cells.toArray = W5 := ⟨_, rfl⟩
        refine oneH (i := 12) (by kernel_rfl) rfl (fun K hK => ?_)
        rw [if_pos (by first | kernel_rfl | rfl)]
        refine wp_store_row 53 _ _ rfl (H) v.cells.toArray rfl rfl 53 var0 h0 var_size rfl (var_one v) ?_
        rw [hW5] at hB5 h9' ⊢
        refine hK.out _ _ (PairV.below (w := wr) HS.out hB5) (fun hHeld2 => ?_)
        clear hK K hHeld2
        have h8' : W5.heap[H]? = some (.cells v.cells.toArray 53) := by rw [← hW5]; exact setRow_heap _ _ _ _ _ _ h0
        have hB6 : Below wr.heap.size wr (W5.setRow (H + 1) v.cells.toArray) := below_setRow hB5 (by omega) _
        obtain ⟨W6, hW6⟩ : ∃ W6, W5.setRow (H + 1) v.cells.toArray = W6 := ⟨_, rfl⟩
        refine oneH (i := 13) (by kernel_rfl) rfl (fun K hK => ?_)
        rw [if_pos (by first | kernel_rfl | rfl)]
        refine wp_store_row 53 _ _ rfl (H + 1) v.cells.toArray rfl rfl 53 var0 h9' var_size rfl (var_one v) ?_
        rw [hW6] at hB6 ⊢
        refine hK.out _ _ (PairV.below (w := wr) HS.out hB6) (fun hHeld2 => ?_)
        clear hK K hHeld2
        have h8'' : W6.heap[H]? = some (.cells v.cells.toArray 53) := by rw [← hW6]; exact (setRow_other _ _ _ _ (by omega)).trans h8'
        have h9'' : W6.heap[H + 1]? = some (.cells v.cells.toArray 53) := by rw [← hW6]; exact setRow_heap _ _ _ _ _ _ h9'
        have HBR6 := Lib.hid (HBR.out.trans (hB6.mono HBR.out.size))
        clear hBW h0 h1 hB5 h9' hW5 h8' hB6 hW6 HS HBR r1 r2
        refine wpAnyH_done (by kernel_rfl) ?_ _
        (try simp only [Act.put, List.setIfInBounds_toArray, List.set_cons_zero, List.set_cons_succ])
        have d0 : W6.cell? ⟨H, 0, none⟩ = some (.string v.name) := heap_cell 0 _ h8'' rfl
        have d1 : W6.cell? ⟨H, 1, none⟩ = some (.int .i64 v.type) := heap_cell 1 _ h8'' rfl
        have d2 : W6.cell? ⟨H, 2, none⟩ = some (.int .i64 v.sect) := heap_cell 2 _ h8'' rfl
        have d3 : W6.cell? ⟨H, 3, none⟩ = some (.bool v.arr) := heap_cell 3 _ h8'' rfl
        have d4 : W6.cell? ⟨H, 4, none⟩ = some (.int .i64 v.lo) := heap_cell 4 _ h8'' rfl
        have d5 : W6.cell? ⟨H, 5, none⟩ = some (.int .i64 v.hi) := heap_cell 5 _ h8'' rfl
        have d6 : W6.cell? ⟨H, 6, none⟩ = some (.int .i64 v.init) := heap_cell 6 _ h8'' rfl
        have d7 : W6.cell? ⟨H, 7, none⟩ = some (.int .i64 v.line) := heap_cell 7 _ h8'' rfl
        have e0 : W6.cell? ⟨H + 1, 0, none⟩ = some (.string v.name) := heap_cell 0 _ h9'' rfl
        have e1 : W6.cell? ⟨H + 1, 1, none⟩ = some (.int .i64 v.type) := heap_cell 1 _ h9'' rfl
        have e2 : W6.cell? ⟨H + 1, 2, none⟩ = some (.int .i64 v.sect) := heap_cell 2 _ h9'' rfl
        have e3 : W6.cell? ⟨H + 1, 3, none⟩ = some (.bool v.arr) := heap_cell 3 _ h9'' rfl
        have e4 : W6.cell? ⟨H + 1, 4, none⟩ = some (.int .i64 v.lo) := heap_cell 4 _ h9'' rfl
        have e5 : W6.cell? ⟨H + 1, 5, none⟩ = some (.int .i64 v.hi) := heap_cell 5 _ h9'' rfl
        have e6 : W6.cell? ⟨H + 1, 6, none⟩ = some (.int .i64 v.init) := heap_cell 6 _ h9'' rfl
        have e7 : W6.cell? ⟨H + 1, 7, none⟩ = some (.int .i64 v.line) := heap_cell 7 _ h9'' rfl
        clear h8'' h9''
        go_wp2
        go_roundw
        case rel => exact ⟨i + 1, by omega, by go_num, HBR6.out⟩
        case measure => simp [intOf]; omega
      · go_simp
        refine hK.out _ _ ?_ (fun hHeld2 => ?_)
        · exact PairV.below (w := wr) HS.out (by (repeat' (first | (with_reducible exact Below.refl _ _) | (with_reducible assumption) | (with_reducible refine below_drewN ?_ _) | (with_reducible refine Below.drew ?_) | (with_reducible refine below_new ?_ (Nat.le_refl _) _) | (with_reducible refine Below.setCell ?_ ?_ _) | (with_reducible refine below_go ?_ (by assumption) (Nat.le_refl _)) | (simp; done) | (simp; omega) | omega)))
        clear hK K hHeld
        have hHeld := hHeld2
        clear hHeld2
        (try simp only [Act.put, List.setIfInBounds_toArray, List.set_cons_zero, List.set_cons_succ])
        refine oneH (i := 10) (by kernel_rfl) rfl (fun K hK => ?_)
        go_simp
        refine hK.out _ _ ?_ (fun hHeld2 => ?_)
        · exact PairV.below (w := wr) HS.out (by (repeat' (first | (with_reducible exact Below.refl _ _) | (with_reducible assumption) | (with_reducible refine below_drewN ?_ _) | (with_reducible refine Below.drew ?_) | (with_reducible refine below_new ?_ (Nat.le_refl _) _) | (with_reducible refine Below.setCell ?_ ?_ _) | (with_reducible refine below_go ?_ (by assumption) (Nat.le_refl _)) | (simp; done) | (simp; omega) | omega)))
        clear hK K hHeld hHeld2
        (try simp only [Act.put, List.setIfInBounds_toArray, List.set_cons_zero, List.set_cons_succ])
        obtain ⟨W, hW⟩ : ∃ W, ((wr.alloc (.cells var0 53)).alloc (.cells var0 53)).drew = W := ⟨_, rfl⟩
        rw [show ((wr.alloc (.cells #[.string ⟨#[]⟩, .int .i64 0, .int .i64 0, .bool false, .int .i64 0, .int .i64 0, .int .i64 0, .int .i64 0] 53)).alloc (.cells #[.string ⟨#[]⟩, .int .i64 0, .int .i64 0, .bool false, .int .i64 0, .int .i64 0, .int .i64 0, .int .i64 0] 53)).drew = W from hW]
        obtain ⟨H, hH⟩ : ∃ H, wr.heap.size = H := ⟨_, rfl⟩
        have hBW : Below wr.heap.size wr W := by rw [← hW]; (repeat' (first | (with_reducible exact Below.refl _ _) | (with_reducible assumption) | (with_reducible refine below_drewN ?_ _) | (with_reducible refine Below.drew ?_) | (with_reducible refine below_new ?_ (Nat.le_refl _) _) | (with_reducible refine Below.setCell ?_ ?_ _) | (with_reducible refine below_go ?_ (by assumption) (Nat.le_refl _)) | (simp; done) | (simp; omega) | omega))
        have h0 : W.heap[H]? = some (.cells var0 53) := by rw [← hW, ← hH]; exact (heap_alloc_old _ _ (by simp)).trans (heap_alloc_new _ _)
        have h1 : W.heap[H + 1]? = some (.cells var0 53) := by rw [← hW, ← hH]; have := heap_alloc_new (wr.alloc (.cells var0 53)) (.cells var0 53); rw [World.size_alloc] at this; exact this
        rw [hH]
        have hHle : wr.heap.size ≤ H := by omega
        have hHge : H ≤ wr.heap.size := by omega
        clear hW hH
        have hB5 : Below wr.heap.size wr (W.setRow (H + 1) v.cells.toArray) := below_setRow hBW (by omega) _
        have h9' : (W.setRow (H + 1) v.cells.toArray).heap[H]? = some (.cells var0 53) := (setRow_other _ _ _ _ (by omega)).trans h0
        obtain ⟨W5, hW5⟩ : ∃ W5, W.setRow (H + 1) v.cells.toArray = W5 := ⟨_, rfl⟩
        refine oneH (i := 12) (by kernel_rfl) rfl (fun K hK => ?_)
        rw [if_pos (by first | kernel_rfl | rfl)]
        refine wp_store_row 53 _ _ rfl (H + 1) v.cells.toArray rfl rfl 53 var0 h1 var_size rfl (var_one v) ?_
        rw [hW5] at hB5 h9' ⊢
        refine hK.out _ _ (PairV.below (w := wr) HS.out hB5) (fun hHeld2 => ?_)
        clear hK K hHeld2
        have h8' : W5.heap[H + 1]? = some (.cells v.cells.toArray 53) := by rw [← hW5]; exact setRow_heap _ _ _ _ _ _ h1
        have hB6 : Below wr.heap.size wr (W5.setRow (H) v.cells.toArray) := below_setRow hB5 (by omega) _
        obtain ⟨W6, hW6⟩ : ∃ W6, W5.setRow (H) v.cells.toArray = W6 := ⟨_, rfl⟩
        refine oneH (i := 13) (by kernel_rfl) rfl (fun K hK => ?_)
        rw [if_pos (by first | kernel_rfl | rfl)]
        refine wp_store_row 53 _ _ rfl (H) v.cells.toArray rfl rfl 53 var0 h9' var_size rfl (var_one v) ?_
        rw [hW6] at hB6 ⊢
        refine hK.out _ _ (PairV.below (w := wr) HS.out hB6) (fun hHeld2 => ?_)
        clear hK K hHeld2
        have h8'' : W6.heap[H + 1]? = some (.cells v.cells.toArray 53) := by rw [← hW6]; exact (setRow_other _ _ _ _ (by omega)).trans h8'
        have h9'' : W6.heap[H]? = some (.cells v.cells.toArray 53) := by rw [← hW6]; exact setRow_heap _ _ _ _ _ _ h9'
        have HBR6 := Lib.hid (HBR.out.trans (hB6.mono HBR.out.size))
        clear hBW h0 h1 hB5 h9' hW5 h8' hB6 hW6 HS HBR r1 r2
        refine wpAnyH_done (by kernel_rfl) ?_ _
        (try simp only [Act.put, List.setIfInBounds_toArray, List.set_cons_zero, List.set_cons_succ])
        have d0 : W6.cell? ⟨H + 1, 0, none⟩ = some (.string v.name) := heap_cell 0 _ h8'' rfl
        have d1 : W6.cell? ⟨H + 1, 1, none⟩ = some (.int .i64 v.type) := heap_cell 1 _ h8'' rfl
        have d2 : W6.cell? ⟨H + 1, 2, none⟩ = some (.int .i64 v.sect) := heap_cell 2 _ h8'' rfl
        have d3 : W6.cell? ⟨H + 1, 3, none⟩ = some (.bool v.arr) := heap_cell 3 _ h8'' rfl
        have d4 : W6.cell? ⟨H + 1, 4, none⟩ = some (.int .i64 v.lo) := heap_cell 4 _ h8'' rfl
        have d5 : W6.cell? ⟨H + 1, 5, none⟩ = some (.int .i64 v.hi) := heap_cell 5 _ h8'' rfl
        have d6 : W6.cell? ⟨H + 1, 6, none⟩ = some (.int .i64 v.init) := heap_cell 6 _ h8'' rfl
        have d7 : W6.cell? ⟨H + 1, 7, none⟩ = some (.int .i64 v.line) := heap_cell 7 _ h8'' rfl
        have e0 : W6.cell? ⟨H, 0, none⟩ = some (.string v.name) := heap_cell 0 _ h9'' rfl
        have e1 : W6.cell? ⟨H, 1, none⟩ = some (.int .i64 v.type) := heap_cell 1 _ h9'' rfl
        have e2 : W6.cell? ⟨H, 2, none⟩ = some (.int .i64 v.sect) := heap_cell 2 _ h9'' rfl
        have e3 : W6.cell? ⟨H, 3, none⟩ = some (.bool v.arr) := heap_cell 3 _ h9'' rfl
        have e4 : W6.cell? ⟨H, 4, none⟩ = some (.int .i64 v.lo) := heap_cell 4 _ h9'' rfl
        have e5 : W6.cell? ⟨H, 5, none⟩ = some (.int .i64 v.hi) := heap_cell 5 _ h9'' rfl
        have e6 : W6.cell? ⟨H, 6, none⟩ = some (.int .i64 v.init) := heap_cell 6 _ h9'' rfl
        have e7 : W6.cell? ⟨H, 7, none⟩ = some (.int .i64 v.line) := heap_cell 7 _ h9'' rfl
        clear h8'' h9''
        go_wp2
        go_roundw
        case rel => exact ⟨i + 1, by omega, by go_num, HBR6.out⟩
        case measure => simp [intOf]; omega
    · obtain rfl : i = n := by omega
      have c3 := (hbr.cell (p := ⟨H0, 2, none⟩) (by show H0 < _; omega)).trans HC3.out
      have c4 := (hbr.cell (p := ⟨H0 + 1, 2, none⟩) (by show H0 + 1 < _; omega)).trans HC4.out
      have HBR := Lib.hid (HB.out.trans (hbr.mono HB.out.size))
      clear hbr
      go_wp2_with fail
      refine (HC.out _ HBR.out).mono ?_
      rintro e w2 ⟨rfl, hb2⟩
      go_wp2
      go_ret
      exact ⟨rfl, HBR.out.trans (hb2.mono HBR.out.size)⟩

end Go.Proofs.Ytcamegfnhbbaeaa
