/- Layer 21: a program folded. -/
import Derived.Test.YtcamegfnhbbaeaaTreeZ0
import Derived.Laws.CopyOwn
namespace Go.Proofs.Ytcamegfnhbbaeaa
open Go.RowKit
set_option linter.unusedVariables false
set_option linter.unusedSimpArgs false
attribute [local go_sem] ite_max ite_min vite_max vite_min ext_cell ext_frozen

def foldP (p : Prg) : Prg := ⟨p.name, p.vars, foldSs opF p.body⟩
/-- a program is handed back -/
def PrgRes (p : Prg) (e : Ending) (w' : World) : Prop := ∃ Av kv Ab kb, e = .returned (.agg #[.string p.name, .slice Av p.vars.length kv, .slice Ab p.body.length kb]) ∧ RowV w' Av p.vars kv ∧ RowT w' Ab p.body kb
theorem moves_all (w : World) : Moves w (only w fun _ => true) := ⟨by rw [only_size]; exact Nat.le_refl _, fun b o v h => by rw [cell_only rfl]; exact h⟩
theorem moves_old {w W : World} (h : Below w.heap.size w W) : Moves w (only W fun i => decide (i < w.heap.size)) :=
  ⟨by rw [only_size]; exact h.size, fun b o v hv => by
    have hl := cell_lt hv
    rw [cell_only (by simpa using hl)]
    exact (h.cell (p := ⟨b, o, none⟩) hl).trans hv⟩
theorem prog_size : (Try.prog.info? 30).map (·.size) = some 3 := by kernel_rfl
def prA (s : ByteArray) (Av : Option Addr) (n kv : Nat) (Ab : Option Addr) (m kb : Nat) : Array Value := #[.string s, .slice Av n kv, .slice Ab m kb]
theorem prA_one (s : ByteArray) (Av : Option Addr) (n kv : Nat) (Ab : Option Addr) (m kb : Nat) : (prA s Av n kv Ab m kb).all (·.oneCell') = true := by simp [prA, Value.oneCell']

set_option maxRecDepth 100000 in
set_option maxHeartbeats 2000000 in
theorem fprog_any (p : Prg) (w : World) (Av Ab : Option Addr) (kv kb : Nat) (hv : RowV w Av p.vars kv) (hb : RowT w Ab p.body kb) :
    Calls Try.prog 14 #[.agg #[.string p.name, .slice Av p.vars.length kv, .slice Ab p.body.length kb]] w fun e w' => PrgRes (foldP p) e w' ∧ Below w.heap.size w w' := by
  have HC : Hid (∀ W, Below w.heap.size w W → Calls Try.prog 35 #[.slice Ab p.body.length kb] W fun e w' => StRes W.heap.size (fun i => decide (i < w.heap.size)) (foldSs opF p.body) e w' ∧ Below W.heap.size W w') := Lib.hid (fun W hW => fstmts_any _ p.body (Nat.lt_succ_self _) (fun i => decide (i < w.heap.size)) W Ab kb (hb.move (moves_old hW)))
  have HV := Lib.hid hv
  obtain ⟨nv, hnv⟩ : ∃ n, p.vars.length = n := ⟨_, rfl⟩
  obtain ⟨nb, hnb⟩ : ∃ n, p.body.length = n := ⟨_, rfl⟩
  have HNV := Lib.hid hnv
  rw [hnb] at HC
  rw [hnv, hnb]
  clear hv hb hnv hnb
  go_enter Try.func14, Try.ntmps14
  go_wp2_with fail
  refine (HC.out _ (by (repeat' (first | (with_reducible exact Below.refl _ _) | (with_reducible assumption) | (with_reducible refine below_drewN ?_ _) | (with_reducible refine Below.drew ?_) | (with_reducible refine below_new ?_ (Nat.le_refl _) _) | (with_reducible refine Below.setCell ?_ ?_ _) | (with_reducible refine below_go ?_ (by assumption) (Nat.le_refl _)) | (simp; done) | (simp; omega) | omega)))).mono ?_
  rintro e w1 ⟨⟨A2, c2, rfl, hr2⟩, hb1⟩
  obtain ⟨ys, hys⟩ : ∃ ys, foldSs opF p.body = ys := ⟨_, rfl⟩
  rw [hys] at hr2 ⊢
  have HYS := Lib.hid hys
  have hX : w1.heap[w.heap.size]? = some (.cells (prA p.name Av nv kv Ab nb kb) 30) := (hb1.block _ (by simp; omega)).trans ((heap_alloc_old _ _ (by simp)).trans (heap_alloc_new _ _))
  have hZ : w1.heap[w.heap.size + 1]? = some (.cells (prA ⟨#[]⟩ none 0 0 none 0 0) 30) := (hb1.block _ (by simp)).trans (by
    have := heap_alloc_new (w.alloc (.cells (prA p.name Av nv kv Ab nb kb) 30)) (.cells (prA ⟨#[]⟩ none 0 0 none 0 0) 30)
    rw [World.size_alloc] at this
    exact this)
  have hB1 : Below w.heap.size w w1 := by (repeat' (first | (with_reducible exact Below.refl _ _) | (with_reducible assumption) | (with_reducible refine below_drewN ?_ _) | (with_reducible refine Below.drew ?_) | (with_reducible refine below_new ?_ (Nat.le_refl _) _) | (with_reducible refine Below.setCell ?_ ?_ _) | (with_reducible refine below_go ?_ (by assumption) (Nat.le_refl _)) | (simp; done) | (simp; omega) | omega))
  have hs1 := hB1.size
  have HR2 := Lib.hid hr2
  have HX := Lib.hid hX
  have HZ := Lib.hid hZ
  have HB1 := Lib.hid hB1
  have hc2 : w1.cell? ⟨w.heap.size, 2, none⟩ = some (.slice Ab nb kb) := heap_cell 2 _ hX rfl
  have hf2 : w1.frozen? ⟨w.heap.size, 2, none⟩ = false := heap_free 2 hX
  have hsz : w.heap.size + 2 ≤ w1.heap.size := by have := (Array.getElem?_eq_some_iff.1 hZ).1; omega
  clear hr2 hb1 hB1 hX hZ hys
  go_upto_region 2 with (fail)
  refine wp_name fun W2 hW2 => ?_
  have hX2 : W2.heap[w.heap.size]? = some (.cells (prA p.name Av nv kv A2 ys.length c2) 30) := by
    rw [hW2.out, setCell_eq_setRow _ _ _ _ _ _ _ HX.out]
    exact setRow_heap _ _ _ _ _ _ HX.out
  have hZ2 : W2.heap[w.heap.size + 1]? = some (.cells (prA ⟨#[]⟩ none 0 0 none 0 0) 30) := by
    rw [hW2.out, heap_setCell_other _ _ _ _ (by simp)]
    exact HZ.out
  have hB2 : Below w.heap.size w W2 := by
    rw [hW2.out]
    exact HB1.out.setCell (by simp) _
  have HX2 := Lib.hid hX2
  have HZ2 := Lib.hid hZ2
  have HB2 := Lib.hid hB2
  have HRES : Hid (RowT (W2.setRow (w.heap.size + 1) (prA p.name Av nv kv A2 ys.length c2)) A2 ys c2) := Lib.hid (by
    refine HR2.out.move (.trans (.onlyW (w' := W2.setRow (w.heap.size + 1) (prA p.name Av nv kv A2 ys.length c2)) (q := fun _ => true) (by rw [hW2.out]; simp [World.setRow]) fun b _ hp => ?_) (Moves.only _ _))
    rw [orNew_iff] at hp
    simp only [World.size_alloc, decide_eq_true_eq] at hp
    refine ⟨rfl, ?_⟩
    rw [setRow_other _ _ _ _ (by omega), hW2.out, heap_setCell_other _ _ _ _ (by show b ≠ w.heap.size; omega)])
  clear hW2 hX2 hZ2 hB2 hc2 hf2 HX HZ HB1
  go_wp2_with (first
    | refine wpList_load_row rfl 30 _ rfl w.heap.size rfl 30 (prA p.name Av nv kv A2 ys.length c2) (0, 0) _ HX2.out Try.underlying30 rfl prog_size ?_
    | refine wpList_store_row rfl 30 _ _ rfl (w.heap.size + 1) (prA p.name Av nv kv A2 ys.length c2) rfl rfl 30 _ HZ2.out prog_size rfl (prA_one _ _ _ _ _ _ _) ?_)
  have hBE : Below w.heap.size w (W2.setRow (w.heap.size + 1) (prA p.name Av nv kv A2 ys.length c2)) := below_setRow HB2.out (by omega) _
  refine post_row Try.results14 rfl (setRow_heap _ _ _ _ _ _ HZ2.out) Try.underlying30 rfl prog_size rfl ⟨?_, hBE⟩
  refine ⟨Av, kv, A2, c2, ?_, HV.out.below hBE, ?_⟩
  · show Ending.returned (.agg (prA p.name Av nv kv A2 ys.length c2)) = _
    unfold foldP
    rw [HYS.out]
    show _ = Ending.returned (.agg (prA p.name Av p.vars.length kv A2 ys.length c2))
    rw [HNV.out]
  · show RowT _ A2 (foldSs opF p.body) c2
    rw [HYS.out]
    exact HRES.out

end Go.Proofs.Ytcamegfnhbbaeaa
