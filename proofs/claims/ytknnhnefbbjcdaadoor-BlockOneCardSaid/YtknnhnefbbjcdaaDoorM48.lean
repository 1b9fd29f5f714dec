/- Merged: Layer 27: a block asks, whatever its cells are; an Ask that begins. PRINTED by wip/tool/mkaskg.py Layer 27: block.Ask of any program: the walk. PRINTED by wip/tool/mkaskg.py -/
import Derived.Test.YtknnhnefbbjcdaaDoorM47
import Derived.Test.YtknnhnefbbjcdaaDoorM33
import Derived.Test.YtknnhnefbbjcdaaDoorM37
namespace Go.Proofs.YtknnhnefbbjcdaaDoor
open Go.RowKit
set_option linter.unusedVariables false
set_option linter.unusedSimpArgs false
attribute [local go_sem] ite_max ite_min vite_max vite_min ext_cell ext_frozen

theorem axOk_yes {z : Int} {ax : Nat} (h : axOk z ax = true) : ∃ k : Nat, z = (k : Int) ∧ k < ax := by
 unfold axOk at h
 simp only [Bool.and_eq_true, decide_eq_true_eq] at h
 exact ⟨z.toNat, by omega, by omega⟩
theorem asks_any (i kind : Int) (off cx g K qi qk ax n m : Nat) (V : Nat → Value) (sh : Value) (nx : Int) (zs : List Int) (z0 z1 i0 i1 : Int) (w0 w w1 : World) (h : AsIn w0 w w1 g K qi qk ax n V sh m nx zs kind off cx z0 z1 i0 i1) :
  Calls Tryd.prog 21 #[.pointer (some ⟨K, 0, none⟩), insV i kind (some ⟨g, off, none⟩) (outsN kind + 7) cx] w1 (OtOut w0 w g K qi qk ax n m zs kind off) := by
 have hw : Calls Tryd.prog 21 #[.pointer (some ⟨K, 0, none⟩), insV i kind (some ⟨g, off, none⟩) (outsN kind + 7) cx] w1 (AsOut w0 w g K qi qk ax n sh m zs kind off) := by
  by_cases h1 : z1 = 0
  ·by_cases h2 : i1 = 0
   ·exact asksC_at i kind off cx g K qi qk ax n m V sh nx zs z0 z1 i0 i1 w0 w w1 h h1 h2
   ·exact asksD_at i kind off cx g K qi qk ax n m V sh nx zs z0 z1 i0 i1 w0 w w1 h h1 h2
  ·by_cases h2 : i0 = 0
   ·cases ho : axOk z0 ax
    ·exact asksA_at i kind off cx g K qi qk ax n m V sh nx zs z0 z1 i0 i1 w0 w w1 h h1 h2 ho
    ·obtain ⟨k, hk⟩ := axOk_yes ho
     exact asksB_at i kind off cx g K qi qk ax n m k V sh nx zs z0 z1 i0 i1 w0 w w1 h h1 h2 hk
   ·cases ho : axOk z0 ax
    ·exact asksE_at i kind off cx g K qi qk ax n m V sh nx zs z0 z1 i0 i1 w0 w w1 h h1 h2 ho
    ·obtain ⟨k, hk⟩ := axOk_yes ho
     exact asksF_at i kind off cx g K qi qk ax n m k V sh nx zs z0 z1 i0 i1 w0 w w1 h h1 h2 hk
 refine hw.mono ?_
 rintro e w' ⟨h1, V', nx', zs', h2, h3⟩
 exact ⟨h1, V', sh, nx', zs', h2, h3⟩
theorem resets_any (i : Int) (off cx g K qi qk ax n m : Nat) (V : Nat → Value) (sh : Value) (nx : Int) (zs : List Int) (z0 z1 i0 : Int) (w0 w w1 : World) (h : OtIn w0 w w1 g K qi qk ax n V sh m nx zs off 5 cx z0 z1) (hb : zs[off + 4]? = some i0) :
  Calls Tryd.prog 22 #[.pointer (some ⟨K, 0, none⟩), insV i 29 (some ⟨g, off, none⟩) 5 cx] w1 (OtOut w0 w g K qi qk ax n m zs 29 off) := by
 by_cases h1 : z1 = 0
 ·exact resets1_at i off cx g K qi qk ax n m V sh nx zs z0 z1 i0 w0 w w1 h hb h1
 ·by_cases h2 : i0 = 0
  ·cases ho : axOk z0 ax
   ·exact resets2_at i off cx g K qi qk ax n m V sh nx zs z0 z1 i0 w0 w w1 h hb h1 h2 ho
   ·obtain ⟨k, hk⟩ := axOk_yes ho
    exact resets3_at i off cx g K qi qk ax n m k V sh nx zs z0 z1 i0 w0 w w1 h hb h1 h2 hk
  ·exact resets4_at i off cx g K qi qk ax n m V sh nx zs z0 z1 i0 w0 w w1 h hb h1 h2
theorem places_any (i : Int) (off cx g K qi qk ax n m : Nat) (V : Nat → Value) (sh : Value) (nx : Int) (zs : List Int) (z0 z1 i0 : Int) (w0 w w1 : World) (h : OtIn w0 w w1 g K qi qk ax n V sh m nx zs off 6 cx z0 z1) (hb : zs[off + 5]? = some i0) :
  Calls Tryd.prog 23 #[.pointer (some ⟨K, 0, none⟩), insV i 30 (some ⟨g, off, none⟩) 6 cx] w1 (OtOut w0 w g K qi qk ax n m zs 30 off) := by
 by_cases h1 : z1 = 0
 ·exact places3_at i off cx g K qi qk ax n m V sh nx zs z0 z1 i0 w0 w w1 h hb h1
 ·by_cases h2 : i0 = 0
  ·cases ho : axOk z0 ax
   ·exact places1_at i off cx g K qi qk ax n m V sh nx zs z0 z1 i0 w0 w w1 h hb h1 h2 ho
   ·obtain ⟨k, hk⟩ := axOk_yes ho
    exact places2_at i off cx g K qi qk ax n m k V sh nx zs z0 z1 i0 w0 w w1 h hb h1 h2 hk
  ·exact places4_at i off cx g K qi qk ax n m V sh nx zs z0 z1 i0 w0 w w1 h hb h1 h2
theorem percents_any (i : Int) (off cx g K qi qk ax n m : Nat) (V : Nat → Value) (sh : Value) (nx : Int) (zs : List Int) (z0 z1 : Int) (w0 w w1 : World) (h : OtIn w0 w w1 g K qi qk ax n V sh m nx zs off 4 cx z0 z1) :
  Calls Tryd.prog 24 #[.pointer (some ⟨K, 0, none⟩), insV i 31 (some ⟨g, off, none⟩) 4 cx] w1 (OtOut w0 w g K qi qk ax n m zs 31 off) := by
 cases ho : axOk z0 ax
 ·exact percents1_at i off cx g K qi qk ax n m V sh nx zs z0 z1 w0 w w1 h ho
 ·obtain ⟨k, hk⟩ := axOk_yes ho
  by_cases h1 : z1 = 0
  ·exact percents2_at i off cx g K qi qk ax n m k V sh nx zs z0 z1 w0 w w1 h h1 hk
  ·exact percents3_at i off cx g K qi qk ax n m k V sh nx zs z0 z1 w0 w w1 h h1 hk
theorem mot_two {t : Int} (h : motB t = true) : 2 ≤ rcount t := by
 rcases mot_kind h with rfl | rfl | rfl | rfl | rfl | rfl | rfl | rfl | rfl | rfl | rfl | rfl
 all_goals decide +kernel
def mkB (n : Nat) : Array Value := (List.replicate n (Value.bool false)).toArray
def inZ : List Value := [.bool false, .bool false, .int .i64 0, .int .i64 0, .bool false, .bool false, .bool false, .bool false, .bool false, .int .i64 0, .int .i64 0, .slice none 0 0]
def mkI : Nat → Array Value
 | 0 => #[]
 | 1 => inZ.toArray
 | 2 => (inZ ++ inZ).toArray
 | 3 => (inZ ++ inZ ++ inZ).toArray
 | _ => (inZ ++ inZ ++ inZ ++ inZ).toArray
theorem mk_boolN (ax : Nat) (h : ax ≤ 4) (w : World) : (Instr.makeSlice 61 (.int .i64 (ax : Int)) (.int .i64 (ax : Int))).run Tryd.prog w = .ok (.slice (some ⟨w.heap.size, 0, none⟩) ax ax) (w.alloc (.cells (mkB ax) 4)) := by
 rcases (show ax = 0 ∨ ax = 1 ∨ ax = 2 ∨ ax = 3 ∨ ax = 4 by omega) with rfl | rfl | rfl | rfl | rfl <;> kernel_rfl
theorem mk_inN (ax : Nat) (h : ax ≤ 4) (w : World) : (Instr.makeSlice 37 (.int .i64 (ax : Int)) (.int .i64 (ax : Int))).run Tryd.prog w = .ok (.slice (some ⟨w.heap.size, 0, none⟩) ax ax) (w.alloc (.cells (mkI ax) 48)) := by
 rcases (show ax = 0 ∨ ax = 1 ∨ ax = 2 ∨ ax = 3 ∨ ax = 4 by omega) with rfl | rfl | rfl | rfl | rfl <;> kernel_rfl
theorem mkB_at {ax i : Nat} (h : ax ≤ 4) (hi : i < ax) : (mkB ax)[i]? = some (.bool false) := by
 rcases (show ax = 0 ∨ ax = 1 ∨ ax = 2 ∨ ax = 3 ∨ ax = 4 by omega) with rfl | rfl | rfl | rfl | rfl
 all_goals rcases (show i = 0 ∨ i = 1 ∨ i = 2 ∨ i = 3 by omega) with rfl | rfl | rfl | rfl
 all_goals first | rfl | omega
theorem mkI_at {ax i : Nat} (h : ax ≤ 4) (hi : i < ax) : (mkI ax)[i * 12 + 0]? = some (.bool false) ∧ (mkI ax)[i * 12 + 7]? = some (.bool false) ∧ (mkI ax)[i * 12 + 8]? = some (.bool false) ∧ (mkI ax)[i * 12 + 9]? = some (.int .i64 0) ∧ (mkI ax)[i * 12 + 11]? = some (.slice none 0 0) := by
 rcases (show ax = 0 ∨ ax = 1 ∨ ax = 2 ∨ ax = 3 ∨ ax = 4 by omega) with rfl | rfl | rfl | rfl | rfl
 all_goals rcases (show i = 0 ∨ i = 1 ∨ i = 2 ∨ i = 3 by omega) with rfl | rfl | rfl | rfl
 all_goals first | exact ⟨rfl, rfl, rfl, rfl, rfl⟩ | omega
theorem GS.rebase {w0 w W : World} {g K qi qk ax n m : Nat} {nx : Int} {zs : List Int} (h : GS w0 w W g K qi qk ax n (fun _ => .slice none 0 0) (.slice none 0 0) m nx zs) : GS w0 W W g K qi qk ax n (fun _ => .slice none 0 0) (.slice none 0 0) 0 nx zs :=
 { h with k0 := rfl, own := fun _ _ => ⟨0, [], Nat.le_refl _, rfl, .inl ⟨rfl, rfl⟩⟩, osh := ⟨0, [], Nat.le_refl _, rfl, .inl ⟨rfl, rfl⟩⟩, lt := h.lts, buts := Buts.of_below (Below.refl _ _), old := h.oldW }
structure AXG (w0 W : World) (nm : ByteArray) (Av : Option Addr) (mv kv : Nat) (Ab : Option Addr) (nb kb : Nat) (B g qi ax n c : Nat) (A1 : Option Addr) (nx : Int) (zs : List Int) : Prop where
 a : GS w0 W W g (B + 3) qi (B + 2) ax n (fun _ => .slice none 0 0) (.slice none 0 0) 0 nx zs
 p0 : W.cell? ⟨B, 0, none⟩ = some (.string nm)
 p1 : W.cell? ⟨B, 1, none⟩ = some (.slice Av mv kv)
 p2 : W.cell? ⟨B, 2, none⟩ = some (.slice Ab nb kb)
 rc : ∀ j, j < 4 → ∃ v, W.cell? ⟨B + 1, j, none⟩ = some v
 rf : ∀ o, W.frozen? ⟨B + 1, o, none⟩ = false
 k0 : W.cell? ⟨B + 3, 0, none⟩ = some (.slice A1 n c)
 hA : 0 < n → A1 = some ⟨g, 0, none⟩
 gB : g = B ∨ B + 3 < g
 qB : B + 3 < qi
section
variable {w0 W W' : World} {nm : ByteArray} {Av Ab A1 : Option Addr} {mv kv nb kb B g qi ax n c : Nat} {nx : Int} {zs : List Int}
theorem AXG.lt (h : AXG w0 W nm Av mv kv Ab nb kb B g qi ax n c A1 nx zs) : B + 3 < W.heap.size := h.a.lts.2.1
theorem AXG.below (h : AXG w0 W nm Av mv kv Ab nb kb B g qi ax n c A1 nx zs) (hb : Below W.heap.size W W') : AXG w0 W' nm Av mv kv Ab nb kb B g qi ax n c A1 nx zs := by
 have l3 := h.lt
 have hc : ∀ b o, b < W.heap.size → W'.cell? ⟨b, o, none⟩ = W.cell? ⟨b, o, none⟩ := fun b o hl => hb.cell (p := ⟨b, o, none⟩) hl
 exact ⟨(h.a.below hb).rebase, (hc _ _ (by omega)).trans h.p0, (hc _ _ (by omega)).trans h.p1, (hc _ _ (by omega)).trans h.p2, fun j hj => (h.rc j hj).imp fun v hv => (hc _ _ (by omega)).trans hv, fun o => (hb.frozen (p := ⟨B + 1, o, none⟩) (by show B + 1 < _; omega)).trans (h.rf o), (hc _ _ (by omega)).trans h.k0, h.hA, h.gB, h.qB⟩
theorem AXG.putQ (h : AXG w0 W nm Av mv kv Ab nb kb B g qi ax n c A1 nx zs) (k : Nat) (z : Int) : AXG w0 (W.setCell ⟨qi, k * 12 + 9, none⟩ (.int .i64 z)) nm Av mv kv Ab nb kb B g qi ax n c A1 nx zs := by
 have l3 := h.lt
 have lq := h.qB
 have hb : But qi W (W.setCell ⟨qi, k * 12 + 9, none⟩ (.int .i64 z)) := (But.refl qi W).set _ _
 have hc : ∀ b o, b < B + 4 → (W.setCell ⟨qi, k * 12 + 9, none⟩ (.int .i64 z)).cell? ⟨b, o, none⟩ = W.cell? ⟨b, o, none⟩ := fun b o hl => hb.cell b o (by omega) (by omega)
 exact ⟨(h.a.putQ k 9 (.int .i64 z) (.inr ⟨rfl, z, rfl⟩)).rebase, (hc _ _ (by omega)).trans h.p0, (hc _ _ (by omega)).trans h.p1, (hc _ _ (by omega)).trans h.p2, fun j hj => (h.rc j hj).imp fun v hv => (hc _ _ (by omega)).trans hv, fun o => (hb.froz _ _ (by omega) (by omega)).trans (h.rf o), (hc _ _ (by omega)).trans h.k0, h.hA, h.gB, lq⟩
end
set_option maxHeartbeats 1000000 in
theorem axg_start {w0 W WL : World} {nm : ByteArray} {Av Ab A1 : Option Addr} {mv kv nb kb B g qi ax n c : Nat} {nx : Int} {zs : List Int} {v0 v1 v2 v3 : Value} {TB TI : TypeId} (hB : w0.heap.size ≤ B) (hold : Below w0.heap.size w0 W) (hlB : B + 3 < W.heap.size) (hax : ax ≤ 4)
  (p0 : W.cell? ⟨B, 0, none⟩ = some (.string nm)) (p1 : W.cell? ⟨B, 1, none⟩ = some (.slice Av mv kv)) (p2 : W.cell? ⟨B, 2, none⟩ = some (.slice Ab nb kb))
  (rc : ∀ j, j < 4 → ∃ v, W.cell? ⟨B + 1, j, none⟩ = some v) (rf : ∀ o, W.frozen? ⟨B + 1, o, none⟩ = false) (hKP : W.heap[B + 2]? = some (.cells (mkB ax) TB))
  (k0 : W.cell? ⟨B + 3, 0, none⟩ = some v0) (k1 : W.cell? ⟨B + 3, 1, none⟩ = some v1) (k2 : W.cell? ⟨B + 3, 2, none⟩ = some v2) (k3 : W.cell? ⟨B + 3, 3, none⟩ = some v3)
  (k4 : W.cell? ⟨B + 3, 4, none⟩ = some (.int .i64 (ax : Int))) (k5 : W.cell? ⟨B + 3, 5, none⟩ = some (.slice (some ⟨B + 2, 0, none⟩) ax ax)) (kf : ∀ o, W.frozen? ⟨B + 3, o, none⟩ = false)
  (hWL : Below W.heap.size W WL) (hrow : Row WL g zs) (hlen : zs.length = n) (hI : WL.heap[qi]? = some (.cells (mkI ax) TI)) (hg : g = B ∨ B + 3 < g) (hq : B + 3 < qi) (hgq : qi ≠ g) (hA : 0 < n → A1 = some ⟨g, 0, none⟩) :
  AXG w0 ((((WL.setCell ⟨B + 3, 0, none⟩ (.slice A1 n c)).setCell ⟨B + 3, 1, none⟩ (.int .i64 nx)).setCell ⟨B + 3, 2, none⟩ (.slice (some ⟨qi, 0, none⟩) ax ax)).setCell ⟨B + 3, 3, none⟩ (.slice none 0 0)) nm Av mv kv Ab nb kb B g qi ax n c A1 nx zs := by
 have hc : ∀ b o, b < W.heap.size → WL.cell? ⟨b, o, none⟩ = W.cell? ⟨b, o, none⟩ := fun b o hl => hWL.cell (p := ⟨b, o, none⟩) hl
 have hf : ∀ b o, b < W.heap.size → WL.frozen? ⟨b, o, none⟩ = W.frozen? ⟨b, o, none⟩ := fun b o hl => hWL.frozen (p := ⟨b, o, none⟩) hl
 have hlL : B + 3 < WL.heap.size := Nat.lt_of_lt_of_le hlB hWL.size
 have q0 := (hc (B + 3) 0 hlB).trans k0
 have q1 := (hc (B + 3) 1 hlB).trans k1
 have q2 := (hc (B + 3) 2 hlB).trans k2
 have q3 := (hc (B + 3) 3 hlB).trans k3
 have q4 := (hc (B + 3) 4 hlB).trans k4
 have q5 := (hc (B + 3) 5 hlB).trans k5
 have qf := fun o => (hf (B + 3) o hlB).trans (kf o)
 have hlq : qi < WL.heap.size := (Array.getElem?_eq_some_iff.1 hI).1
 obtain ⟨W', hW'⟩ : ∃ x, x = ((((WL.setCell ⟨B + 3, 0, none⟩ (.slice A1 n c)).setCell ⟨B + 3, 1, none⟩ (.int .i64 nx)).setCell ⟨B + 3, 2, none⟩ (.slice (some ⟨qi, 0, none⟩) ax ax)).setCell ⟨B + 3, 3, none⟩ (.slice none 0 0)) := ⟨_, rfl⟩
 have hb : But (B + 3) WL W' := by rw [hW']; exact ((((But.refl _ _).set 0 _).set 1 _).set 2 _).set 3 _
 have e0 : W'.cell? ⟨B + 3, 0, none⟩ = some (.slice A1 n c) := by rw [hW']; go_simp
 have e1 : W'.cell? ⟨B + 3, 1, none⟩ = some (.int .i64 nx) := by rw [hW']; go_simp
 have e2 : W'.cell? ⟨B + 3, 2, none⟩ = some (.slice (some ⟨qi, 0, none⟩) ax ax) := by rw [hW']; go_simp
 have e3 : W'.cell? ⟨B + 3, 3, none⟩ = some (.slice none 0 0) := by rw [hW']; go_simp
 have e4 : W'.cell? ⟨B + 3, 4, none⟩ = some (.int .i64 (ax : Int)) := by rw [hW']; go_simp
 have e5 : W'.cell? ⟨B + 3, 5, none⟩ = some (.slice (some ⟨B + 2, 0, none⟩) ax ax) := by rw [hW']; go_simp
 have ef : ∀ o, W'.frozen? ⟨B + 3, o, none⟩ = false := fun o => by rw [hW']; have := qf o; go_simp
 rw [← hW']
 have hd : ∀ b o, b < B + 3 → W'.cell? ⟨b, o, none⟩ = W.cell? ⟨b, o, none⟩ := fun b o hl => (hb.cell b o (by omega) (by omega)).trans (hc b o (by omega))
 have hz := hb.size
 have hzW := hWL.size
 have hi : ∀ j, W'.cell? ⟨qi, j, none⟩ = WL.cell? ⟨qi, j, none⟩ := fun j => hb.cell qi j hlq (by omega)
 have hgl := hrow.lt
 have hold' : Below w0.heap.size w0 W' := (hold.trans (hWL.mono hold.size)).trans (hb.below _ (by omega) (by have := hold.size; omega))
 have hKP' : WL.heap[B + 2]? = some (.cells (mkB ax) TB) := (hWL.block (B + 2) (by omega)).trans hKP
 have hgw : w0.heap.size ≤ g := by omega
 refine ⟨⟨row_but hrow hb (by omega), hlen, rfl, e1, e2, e3, e4, e5, ef, fun o => (hb.froz qi o hlq (by omega)).trans (heap_free o hI), fun o => (hb.froz (B + 2) o (by omega) (by omega)).trans (heap_free o hKP'), fun i r hi' hr => ?_, fun i hi' => ⟨0, (hi _).trans (heap_cell _ _ hI (mkI_at hax hi').2.2.2.1)⟩, fun i hi' => (hi _).trans (heap_cell _ _ hI (mkI_at hax hi').2.2.2.2), fun i hi' => ⟨false, (hb.cell (B + 2) i (by omega) (by omega)).trans (heap_cell _ _ hKP' (mkB_at hax hi'))⟩,
  fun _ _ => ⟨0, [], Nat.le_refl _, rfl, .inl ⟨rfl, rfl⟩⟩, ⟨0, [], Nat.le_refl _, rfl, .inl ⟨rfl, rfl⟩⟩, fun i j b _ _ _ h => (by cases h), fun i b _ h => (by cases h), by omega, by omega, by omega, Buts.of_below (Below.refl _ _), hold'⟩,
  (hd _ _ (by omega)).trans p0, (hd _ _ (by omega)).trans p1, (hd _ _ (by omega)).trans p2, fun j hj => (rc j hj).imp fun v hv => (hd _ _ (by omega)).trans hv, fun o => ((hb.froz _ _ (by omega) (by omega)).trans (hf _ _ (by omega))).trans (rf o), e0, hA, hg, hq⟩
 obtain ⟨m0, m7, m8, -, -⟩ := mkI_at hax hi'
 rcases hr with rfl | rfl | rfl
 ·exact ⟨false, (hi _).trans (heap_cell _ _ hI m0)⟩
 ·exact ⟨false, (hi _).trans (heap_cell _ _ hI m7)⟩
 ·exact ⟨false, (hi _).trans (heap_cell _ _ hI m8)⟩

end Go.Proofs.YtknnhnefbbjcdaaDoor

namespace Go.Proofs.YtknnhnefbbjcdaaDoor
open Go.RowKit
set_option linter.unusedVariables false
set_option linter.unusedSimpArgs false
attribute [local go_sem] ite_max ite_min vite_max vite_min ext_cell ext_frozen

set_option maxRecDepth 100000 in
set_option maxHeartbeats 8000000 in
theorem askS_at (p : Prg) (cs : List Value) (zs : List Int) (A : Option Addr) (n c : Nat) (nx : Int) (ax : Nat) (w : World)
  (h : PrgAt w p cs) (hfit : ∀ v ∈ p.vars, ArrOk v) (hmot : ∀ v ∈ p.vars, v.arr = true → v.type ≤ 2) (hn64 : p.vars.length ≤ 64) (ht : Blanks w) (hr : RowN w A zs c) (hl : zs.length = n) (hn : n ≤ 16384) (hs : n = sumN p.vars) (hax : ax ≤ 4) :
  Calls Tryd.prog 9 #[.agg cs.toArray, .slice A n c, .int .i64 nx, .int .i64 (ax : Int)] w fun e w' => (∃ A' c' nx' v2 v3 zs', e = .returned (.agg #[.slice A' n c', .int .i64 nx', v2, v3]) ∧ zs'.length = n ∧ RowN w' A' zs' c' ∧ (A' = none ∨ ∃ b off, A' = some ⟨b, off, none⟩) ∧ (OneAll (blks p.vars) zs → OneAll (blks p.vars) zs') ∧ v2.oneCell' = true ∧ v3.oneCell' = true) ∧ Below w.heap.size w w' := by
 obtain ⟨Av, kv, Ab, kb, rfl, hv, hbd⟩ := h
 have HOF : Hid (∀ W, Below w.heap.size w W → Calls Tryd.prog 6 #[.agg #[.string p.name, .slice Av p.vars.length kv, .slice Ab p.body.length kb]] W fun e w' => (∃ v, e = .returned v ∧ LayR W p.vars v w') ∧ Below W.heap.size W w') := Lib.hid (fun W hW => layof_any p _ W ⟨Av, kv, Ab, kb, rfl, hv.below hW, hbd.below hW⟩ hfit hn64 (ht.on hW))
 have HIN : Hid (∀ W g n c Ao, Below w.heap.size w W → (0 < n → Ao = some ⟨g, 0, none⟩) → sumN p.vars ≤ n → n ≤ c ∧ c ≤ 9223372036854775807 → Calls Tryd.prog 17 #[.agg #[.string p.name, .slice Av p.vars.length kv, .slice Ab p.body.length kb], .slice Ao n c] W fun e w' => (∃ v, e = .returned v ∧ w'.ownsRow W.heap.size 68 3 v (blks p.vars).length (blkCs g c (blks p.vars))) ∧ Below W.heap.size W w') := Lib.hid (fun W g n c Ao hW h1 h2 h3 => inst_at p _ g n c Ao W ⟨Av, kv, Ab, kb, rfl, hv.below hW, hbd.below hW⟩ hfit hmot hn64 (ht.on hW) h1 h2 h3)
 have HOK := Lib.hid (blksT_ok hmot p.vars.length (Nat.le_refl _))
 have HT := Lib.hid ht
 have HRN := Lib.hid hr
 have HL := Lib.hid hl
 have HCL : Hid (∀ W, Below w.heap.size w W → Calls Tryd.prog 16 #[.slice A n c] W fun e w' => (∃ v, e = .returned v ∧ w'.ownsRow W.heap.size 2 1 v n (intsV .i64 zs)) ∧ Below W.heap.size W w') := Lib.hid (fun W hW => clone_any zs A n c W (hr.below hW) hl hn)
 obtain ⟨m, hm⟩ : ∃ m, p.vars.length = m := ⟨_, rfl⟩
 obtain ⟨nb, hnb⟩ : ∃ m, p.body.length = m := ⟨_, rfl⟩
 obtain ⟨bl, hbl⟩ : ∃ b, blks p.vars = b := ⟨_, rfl⟩
 have hok := HOK.out
 have hbl0 : blksT p.vars p.vars.length = bl := hbl
 rw [hbl0, ← hs] at hok
 have HBO := Lib.hid hok
 have HAP : Hid (BlApart bl) := Lib.hid (by rw [← hbl]; exact blks_apart hmot)
 have hblm : bl.length ≤ 64 := by rw [← hbl0]; exact Nat.le_trans (blksT_len _ _) hn64
 have HSN := Lib.hid hs
 have HAX := Lib.hid hax
 rw [hbl] at HIN ⊢
 rw [hm, hnb] at HOF HIN
 show Calls Tryd.prog 9 #[.agg #[.string p.name, .slice Av p.vars.length kv, .slice Ab p.body.length kb], .slice A n c, .int .i64 nx, .int .i64 (ax : Int)] w _
 rw [hm, hnb]
 have hmkb := mk_boolN ax hax
 have hmki := mk_inN ax hax
 have hc1 := hr.1
 have hc2 := hr.2.1
 rw [hl] at hc1
 clear hv hbd hfit hmot ht hr hl hm hnb hbl hbl0 hok HOK hn64 hs
 go_enter Tryd.func9, Tryd.ntmps9
 go_upto_region 2 with (fail)
 simp only [show (max (0 : Int) (min (ax : Int) 4)) = (ax : Int) by omega]
 go_upto_region 3 with (fail)
 refine wp_name fun W hW => ?_
 obtain ⟨B, hB⟩ : ∃ B, B = w.heap.size := ⟨_, rfl⟩
 have hb1 : B + 1 = w.heap.size + 1 := by omega
 have hb2 : B + 2 = w.heap.size + 2 := by omega
 have hb3 : B + 3 = w.heap.size + 3 := by omega
 have hbel : Below w.heap.size w W := by rw [hW.out]; exact belowBy
 have hsz : W.heap.size = B + 4 := by rw [hW.out, hB]; simp
 have p0 : W.cell? ⟨B, 0, none⟩ = some (.string p.name) := by rw [hW.out, hB]; go_simp
 have p1 : W.cell? ⟨B, 1, none⟩ = some (.slice Av m kv) := by rw [hW.out, hB]; go_simp
 have p2 : W.cell? ⟨B, 2, none⟩ = some (.slice Ab nb kb) := by rw [hW.out, hB]; go_simp
 have pf : ∀ o, W.frozen? ⟨B, o, none⟩ = false := fun o => by rw [hW.out, hB]; go_simp
 have hKP : W.heap[B + 2]? = some (.cells (mkB ax) 4) := by
  rw [hW.out, hb2]
  exact (heap_alloc_old _ _ (by simp)).trans (heap_alloc_atN (by simp))
 have k5 : W.cell? ⟨B + 3, 5, none⟩ = some (.slice (some ⟨B + 2, 0, none⟩) ax ax) := by rw [hW.out, hb3, hb2]; go_simp
 have k4 : W.cell? ⟨B + 3, 4, none⟩ = some (.int .i64 (ax : Int)) := by rw [hW.out, hb3]; go_simp
 have kc : ∃ v0 v1 v2 v3, W.cell? ⟨B + 3, 0, none⟩ = some v0 ∧ W.cell? ⟨B + 3, 1, none⟩ = some v1 ∧ W.cell? ⟨B + 3, 2, none⟩ = some v2 ∧ W.cell? ⟨B + 3, 3, none⟩ = some v3 := by
  refine ⟨.slice none 0 0, .int .i64 0, .slice none 0 0, .slice none 0 0, ?_, ?_, ?_, ?_⟩
  all_goals (rw [hW.out, hb3]; go_simp)
 have kf : ∀ o, W.frozen? ⟨B + 3, o, none⟩ = false := fun o => by rw [hW.out, hb3]; go_simp
 have rc : ∀ j, j < 4 → ∃ v, W.cell? ⟨B + 1, j, none⟩ = some v := fun j hj => by
  rw [hW.out, hb1]
  rcases (show j = 0 ∨ j = 1 ∨ j = 2 ∨ j = 3 by omega) with rfl | rfl | rfl | rfl
  ·exact ⟨.slice none 0 0, by go_simp⟩
  ·exact ⟨.int .i64 0, by go_simp⟩
  ·exact ⟨.slice none 0 0, by go_simp⟩
  ·exact ⟨.slice none 0 0, by go_simp⟩
 have rf : ∀ o, W.frozen? ⟨B + 1, o, none⟩ = false := fun o => by rw [hW.out, hb1]; go_simp
 have HB := Lib.hid hbel
 (try rw [← hb3])
 (try rw [← hb2])
 (try rw [← hb1])
 (try rw [← hB])
 have hBw : w.heap.size ≤ B := by omega
 clear hW hbel hB hb1 hb2 hb3
 obtain ⟨v0, v1, v2, v3, k0, k1, k2, k3⟩ := kc
 have hlB : B + 3 < W.heap.size := by omega
 go_cut [] from 25 to 33 (fun wx => ∃ A1 c1 g qi, n ≤ c1 ∧ c1 ≤ 9223372036854775807 ∧ (A1 = none ∨ ∃ b off, A1 = some ⟨b, off, none⟩) ∧ Hid (AXG w wx p.name Av m kv Ab nb kb B g qi ax n c1 A1 nx zs))
 case first =>
  have HBD : Hid (Below W.heap.size W W.drew) := Lib.hid (by exact belowBy)
  have HTOP : Hid (∀ W', Below W.heap.size W W' → B + 3 < W'.heap.size) := Lib.hid (fun W' hW' => Nat.lt_of_lt_of_le hlB hW'.size)
  have HKF := Lib.hid kf
  have HK0 := Lib.hid k0
  have HK1 := Lib.hid k1
  have HK2 := Lib.hid k2
  have HK3 := Lib.hid k3
  have HK4 := Lib.hid k4
  have HK5 := Lib.hid k5
  have HP0 := Lib.hid p0
  have HP1 := Lib.hid p1
  have HP2 := Lib.hid p2
  have HPF := Lib.hid pf
  have HRC := Lib.hid rc
  have HRF := Lib.hid rf
  have HKP := Lib.hid hKP
  clear p0 p1 p2 pf rc rf hKP k0 k1 k2 k3 k4 k5 kf
  refine wp_region_held_drew (S := (fun W' => B + 3 < W'.heap.size)) (by kernel_rfl) (HTOP.out _ HBD.out) (fun hHeld => ?_)
  (try simp only [Act.put, List.setIfInBounds_toArray, List.set_cons_zero, List.set_cons_succ])
  (refine takeH (i := 0) (v := ?_) rfl (by kernel_rfl) (by kernel_rfl) (by kernel_rfl) (fun _ _ _ h => h) (Or.inl ⟨by first | kernel_rfl | rfl, ?_⟩) (by assumption) ?_; rotate_left; (focus (intro w' hSw; (try dsimp only at hSw); go_simp; try (with_reducible rfl))))
  (refine takeH (i := 1) (v := ?_) rfl (by kernel_rfl) (by kernel_rfl) (by kernel_rfl) (fun _ _ _ h => h) (Or.inl ⟨by first | kernel_rfl | rfl, ?_⟩) (by assumption) ?_; rotate_left; (focus (intro w' hSw; (try dsimp only at hSw); go_simp; try (with_reducible rfl))))
  (refine takeH (i := 3) (v := ?_) rfl (by kernel_rfl) (by kernel_rfl) (by kernel_rfl) (fun _ _ _ h => h) (Or.inl ⟨by first | kernel_rfl | rfl, ?_⟩) (by assumption) ?_; rotate_left; (focus (intro w' hSw; (try dsimp only at hSw); go_simp; try (with_reducible rfl))))
  (refine takeH (i := 4) (v := ?_) rfl (by kernel_rfl) (by kernel_rfl) (by kernel_rfl) (fun _ _ _ h => h) (Or.inl ⟨by first | kernel_rfl | rfl, ?_⟩) (by assumption) ?_; rotate_left; (focus (intro w' hSw; (try dsimp only at hSw); go_simp; try (with_reducible rfl))); (try simp only [Act.put, List.setIfInBounds_toArray, List.set_cons_zero, List.set_cons_succ]))
  refine twoH (i := 2) (j := 5) (by kernel_rfl) rfl rfl (fun K hK => ?o1) (fun K hK => ?o2)
  case' o1 =>
   go_simp
   go_at_call 16
   refine (HCL.out _ (HB.out.trans (HBD.out.mono HB.out.size))).mono ?_
   rintro e w11 ⟨⟨v1', rfl, hown⟩, hb11⟩
   obtain ⟨A1, c1, rfl⟩ := own_slice hown
   have HOW := Lib.hid hown
   have HB11 := Lib.hid (HBD.out.trans (hb11.mono HBD.out.size))
   have HHB11 := Lib.hid hb11
   clear hb11 hown
   go_wp2_with fail
   refine hK.out _ _ (HTOP.out _ HB11.out) (fun hHeld => ?_)
   clear hK K
   (try simp only [Act.put, List.setIfInBounds_toArray, List.set_cons_zero, List.set_cons_succ])
   refine oneH (i := 5) (by kernel_rfl) rfl (fun K hK => ?_)
   go_simp
   refine hK.out _ (w11.alloc (.cells (mkI ax) 48)) (HTOP.out _ (below_new HB11.out (Nat.le_refl _) _)) (fun hHeld => ?_)
   clear hK K
   (try simp only [Act.put, List.setIfInBounds_toArray, List.set_cons_zero, List.set_cons_succ])
   have HBL : Hid (Below W.heap.size W (w11.alloc (.cells (mkI ax) 48))) := Lib.hid (below_new HB11.out (Nat.le_refl _) _)
   have hhI : (w11.alloc (.cells (mkI ax) 48)).heap[w11.heap.size]? = some (.cells (mkI ax) 48) := heap_alloc_new _ _
   have hqi : B + 3 < w11.heap.size := HTOP.out _ HB11.out
   obtain ⟨hcc1, hcc2, hA1⟩ : n ≤ c1 ∧ c1 ≤ 9223372036854775807 ∧ (A1 = none ∨ ∃ b off, A1 = some ⟨b, off, none⟩) := by
    rcases HOW.out.2 with ⟨h0, hn0⟩ | ⟨gq, capq, curq, hvq, -, -, h1, h2, -⟩
    ·cases h0
     exact ⟨by omega, by omega, .inl rfl⟩
    ·cases hvq
     unfold maxLen at h2
     exact ⟨h1, by omega, .inr ⟨_, _, rfl⟩⟩
   obtain ⟨g, hg1, hg2, hg3, hg4⟩ : ∃ g, (0 < n → A1 = some ⟨g, 0, none⟩) ∧ Hid (Row (w11.alloc (.cells (mkI ax) 48)) g zs) ∧ (g = B ∨ B + 3 < g) ∧ w11.heap.size ≠ g := by
    by_cases h0 : 0 < n
    ·obtain ⟨g, cap, hv, -, -, hg, hrow, -⟩ := row_of_own HOW.out h0
     cases hv
     have hgl := hrow.lt
     exact ⟨g, fun _ => rfl, Lib.hid (hrow.below (below_new (Below.refl _ _) (Nat.le_refl _) _)), .inr (by simp [hsz] at hg; omega), by omega⟩
    ·have hz : zs = [] := List.eq_nil_of_length_eq_zero (by rw [HL.out]; omega)
     exact ⟨B, fun h => absurd h h0, Lib.hid (by rw [hz]; exact ⟨by have := HTOP.out _ HBL.out; omega, fun j z hz => by simp at hz, fun o => (HBL.out.frozen (p := ⟨B, o, none⟩) (by show B < _; omega)).trans (HPF.out o)⟩), .inl rfl, by omega⟩
   obtain ⟨WL, hWL⟩ : ∃ x, x = (w11.alloc (.cells (mkI ax) 48)) := ⟨_, rfl⟩
   obtain ⟨qi, hqe⟩ : ∃ x, x = w11.heap.size := ⟨_, rfl⟩
   rw [← hqe] at hhI hqi hg4 ⊢
   rw [← hWL] at HBL hg2 hhI ⊢
   clear hWL hqe
  case' o2 =>
   go_simp
   refine hK.out _ (W.drew.alloc (.cells (mkI ax) 48)) (HTOP.out _ (below_new HBD.out (Nat.le_refl _) _)) (fun hHeld => ?_)
   clear hK K
   (try simp only [Act.put, List.setIfInBounds_toArray, List.set_cons_zero, List.set_cons_succ])
   have HBA : Hid (Below W.heap.size W (W.drew.alloc (.cells (mkI ax) 48))) := Lib.hid (below_new HBD.out (Nat.le_refl _) _)
   refine oneH (i := 2) (by kernel_rfl) rfl (fun K hK => ?_)
   go_simp
   go_at_call 16
   refine (HCL.out _ (HB.out.trans (HBA.out.mono HB.out.size))).mono ?_
   rintro e w11 ⟨⟨v1', rfl, hown⟩, hb11⟩
   obtain ⟨A1, c1, rfl⟩ := own_slice hown
   have HOW := Lib.hid hown
   have HB11 := Lib.hid (HBA.out.trans (hb11.mono HBA.out.size))
   have HHB11 := Lib.hid hb11
   clear hb11 hown
   go_wp2_with fail
   refine hK.out _ _ (HTOP.out _ HB11.out) (fun hHeld => ?_)
   clear hK K
   (try simp only [Act.put, List.setIfInBounds_toArray, List.set_cons_zero, List.set_cons_succ])
   have HBL : Hid (Below W.heap.size W w11) := Lib.hid (HB11.out)
   have hhI : w11.heap[(B + 4)]? = some (.cells (mkI ax) 48) := (HHB11.out.block _ (by simp; omega)).trans (by rw [show B + 4 = W.drew.heap.size from hsz.symm]; exact heap_alloc_new _ _)
   have hqi : B + 3 < (B + 4) := by omega
   obtain ⟨hcc1, hcc2, hA1⟩ : n ≤ c1 ∧ c1 ≤ 9223372036854775807 ∧ (A1 = none ∨ ∃ b off, A1 = some ⟨b, off, none⟩) := by
    rcases HOW.out.2 with ⟨h0, hn0⟩ | ⟨gq, capq, curq, hvq, -, -, h1, h2, -⟩
    ·cases h0
     exact ⟨by omega, by omega, .inl rfl⟩
    ·cases hvq
     unfold maxLen at h2
     exact ⟨h1, by omega, .inr ⟨_, _, rfl⟩⟩
   obtain ⟨g, hg1, hg2, hg3, hg4⟩ : ∃ g, (0 < n → A1 = some ⟨g, 0, none⟩) ∧ Hid (Row w11 g zs) ∧ (g = B ∨ B + 3 < g) ∧ (B + 4) ≠ g := by
    by_cases h0 : 0 < n
    ·obtain ⟨g, cap, hv, -, -, hg, hrow, -⟩ := row_of_own HOW.out h0
     cases hv
     have hgl := hrow.lt
     exact ⟨g, fun _ => rfl, Lib.hid (hrow), .inr (by simp [hsz] at hg; omega), by simp [hsz] at hg; omega⟩
    ·have hz : zs = [] := List.eq_nil_of_length_eq_zero (by rw [HL.out]; omega)
     exact ⟨B, fun h => absurd h h0, Lib.hid (by rw [hz]; exact ⟨by have := HTOP.out _ HBL.out; omega, fun j z hz => by simp at hz, fun o => (HBL.out.frozen (p := ⟨B, o, none⟩) (by show B < _; omega)).trans (HPF.out o)⟩), .inl rfl, by omega⟩
   obtain ⟨WL, hWL⟩ : ∃ x, x = w11 := ⟨_, rfl⟩
   obtain ⟨qi, hqe⟩ : ∃ x, x = (B + 4) := ⟨_, rfl⟩
   rw [← hqe] at hhI hqi hg4 ⊢
   rw [← hWL] at HBL hg2 hhI ⊢
   clear hWL hqe
  all_goals
   have hlL' : B + 3 < WL.heap.size := HTOP.out _ HBL.out
   (refine takeH (i := 6) (v := ?_) rfl (by kernel_rfl) (by kernel_rfl) (by kernel_rfl) (fun _ _ _ h => h) (Or.inl ⟨by first | kernel_rfl | rfl, ?_⟩) (by assumption) ?_; rotate_left; (focus (intro w' hSw; (try dsimp only at hSw); go_simp; try (with_reducible rfl))))
   (refine takeH (i := 7) (v := ?_) rfl (by kernel_rfl) (by kernel_rfl) (by kernel_rfl) (fun _ _ _ h => h) (Or.inl ⟨by first | kernel_rfl | rfl, ?_⟩) (by assumption) ?_; rotate_left; (focus (intro w' hSw; (try dsimp only at hSw); go_simp; try (with_reducible rfl))))
   (refine takeH (i := 8) (v := ?_) rfl (by kernel_rfl) (by kernel_rfl) (by kernel_rfl) (fun _ _ _ h => h) (Or.inl ⟨by first | kernel_rfl | rfl, ?_⟩) (by assumption) ?_; rotate_left; (focus (intro w' hSw; (try dsimp only at hSw); go_simp; try (with_reducible rfl))); (try simp only [Act.put, List.setIfInBounds_toArray, List.set_cons_zero, List.set_cons_succ]))
   have q0 : WL.cell? ⟨B + 3, 0, none⟩ = some v0 := (HBL.out.cell (p := ⟨B + 3, 0, none⟩) hlB).trans HK0.out
   have q1 : WL.cell? ⟨B + 3, 1, none⟩ = some v1 := (HBL.out.cell (p := ⟨B + 3, 1, none⟩) hlB).trans HK1.out
   have q2 : WL.cell? ⟨B + 3, 2, none⟩ = some v2 := (HBL.out.cell (p := ⟨B + 3, 2, none⟩) hlB).trans HK2.out
   have q3 : WL.cell? ⟨B + 3, 3, none⟩ = some v3 := (HBL.out.cell (p := ⟨B + 3, 3, none⟩) hlB).trans HK3.out
   have qf : ∀ o, WL.frozen? ⟨B + 3, o, none⟩ = false := fun o => (HBL.out.frozen (p := ⟨B + 3, o, none⟩) hlB).trans (HKF.out o)
   have hlL : B + 3 < WL.heap.size := HTOP.out _ HBL.out
   have HAXG := Lib.hid (axg_start (c := c1) (nx := nx) hBw HB.out hlB HAX.out HP0.out HP1.out HP2.out HRC.out HRF.out HKP.out HK0.out HK1.out HK2.out HK3.out HK4.out HK5.out HKF.out HBL.out hg2.out HL.out hhI hg3 hqi hg4 hg1)
   refine oneH (i := 9) (by kernel_rfl) rfl (fun Kc hK => ?_)
   go_simp
   refine hK.out _ _ ?hS9 (fun hHeld => ?_)
   case hS9 => exact HAXG.out.lt
   clear hK Kc q0 q1 q2 q3 qf hhI
   (try simp only [Act.put, List.setIfInBounds_toArray, List.set_cons_zero, List.set_cons_succ])
   refine wpAnyH_done (by kernel_rfl) ?_ _
   (try simp only [Act.put, List.setIfInBounds_toArray, List.set_cons_zero, List.set_cons_succ])
   go_wp2_with fail
   go_meet
   case rel => exact ⟨A1, c1, g, qi, hcc1, hcc2, hA1, HAXG⟩
 case rest =>
  obtain ⟨A1, c1, g, qi, hcc1, hcc2, hA1, HAX1⟩ := hcut
  clear p0 p1 p2 pf rc rf hKP k0 k1 k2 k3 k4 k5 kf hsz HB HCL hmkb hmki hlB HRN
  have HAA := Lib.hid hA1
  clear hA1
  have k2 := HAX1.out.a.k2
  have lK := HAX1.out.lt
  go_wp2_with fail
  clear k2 lK
  go_loopw [40] (fun u wr => ∃ (k : Nat), k ≤ ax ∧ u = .int .i64 k ∧ Hid (AXG w wr p.name Av m kv Ab nb kb B g qi ax n c1 A1 nx zs)) (fun u _ => ax - (intOf u).toNat)
  case atStart => exact ⟨0, by omega, rfl, HAX1⟩
  case round =>
   obtain ⟨k, hk, rfl, HAXR⟩ := hrel
   clear HAX1
   by_cases hlt : k < ax
   ·have k2 := HAXR.out.a.k2
    have lK := HAXR.out.lt
    have lq := HAXR.out.a.lts.2.2.1
    obtain ⟨z9, i9⟩ := HAXR.out.a.i9 k hlt
    have qf := HAXR.out.a.qf (k * 12 + 9)
    have hkI : (0 : Int) ≤ (k : Int) ∧ (k : Int) < (ax : Int) := by omega
    go_upto_region 8 with (fail)
    refine wp_name fun W7 hW7 => ?_
    have HAX7 : Hid (AXG w W7 p.name Av m kv Ab nb kb B g qi ax n c1 A1 nx zs) := Lib.hid (by rw [hW7.out]; exact HAXR.out.putQ k 100)
    clear hW7 k2 lK lq i9 qf HAXR
    go_wp2
    go_roundw
    case rel => exact ⟨k + 1, by omega, by go_num, HAX7⟩
    case measure => simp [intOf]; omega
   ·obtain rfl : ax = k := by omega
    have p0 := HAXR.out.p0
    have p1 := HAXR.out.p1
    have p2 := HAXR.out.p2
    have lK := HAXR.out.lt
    have lB : B < wr.heap.size := by omega
    go_wp2_with fail
    refine (HOF.out wr HAXR.out.a.old).mono ?_
    rintro e w2 ⟨⟨v2', rfl, ⟨vA, vF, rfl, -, -⟩⟩, hb2⟩
    rw [← HSN.out]
    have hfd : ∀ W : World, (Instr.field 33 (.agg #[vA, .int .i64 (n : Int), vF]) 1).run Tryd.prog W = .ok (.int .i64 (n : Int)) W := fun W => by kernel_rfl
    have HAX2 := Lib.hid (HAXR.out.below hb2)
    clear hb2 p0 p1 p2 lK lB HAXR
    go_upto_region 11 with (fail)
    have HSB : Hid (∀ W', Below w2.heap.size w2 W' → W'.cell? ⟨B, 0, none⟩ = some (.string p.name) ∧ W'.cell? ⟨B, 1, none⟩ = some (.slice Av m kv) ∧ W'.cell? ⟨B, 2, none⟩ = some (.slice Ab nb kb) ∧ W'.cell? ⟨B + 3, 0, none⟩ = some (.slice A1 n c1) ∧ B < W'.heap.size ∧ B + 3 < W'.heap.size) := Lib.hid (fun W' hW' => by
     have h := HAX2.out.below hW'
     have hl := h.lt
     exact ⟨h.p0, h.p1, h.p2, h.k0, by omega, hl⟩)
    have HBD : Hid (Below w2.heap.size w2 w2.drew) := Lib.hid (by exact belowBy)
    refine wp_region_held_drew (S := (fun W' => W'.cell? ⟨B, 0, none⟩ = some (.string p.name) ∧ W'.cell? ⟨B, 1, none⟩ = some (.slice Av m kv) ∧ W'.cell? ⟨B, 2, none⟩ = some (.slice Ab nb kb) ∧ W'.cell? ⟨B + 3, 0, none⟩ = some (.slice A1 n c1) ∧ B < W'.heap.size ∧ B + 3 < W'.heap.size)) (by kernel_rfl) (HSB.out _ HBD.out) (fun hHeld => ?_)
    (try simp only [Act.put, List.setIfInBounds_toArray, List.set_cons_zero, List.set_cons_succ])
    (refine takeH (i := 0) (v := ?_) rfl (by kernel_rfl) (by kernel_rfl) (by kernel_rfl) (fun _ _ _ h => h) (Or.inl ⟨by first | kernel_rfl | rfl, ?_⟩) (by assumption) ?_; rotate_left; (focus (intro w' hSw; (try dsimp only at hSw); go_simp; try (with_reducible rfl))))
    (refine takeH (i := 1) (v := ?_) rfl (by kernel_rfl) (by kernel_rfl) (by kernel_rfl) (fun _ _ _ h => h) (Or.inl ⟨by first | kernel_rfl | rfl, ?_⟩) (by assumption) ?_; rotate_left; (focus (intro w' hSw; (try dsimp only at hSw); go_simp; try (with_reducible rfl))))
    (refine takeH (i := 2) (v := ?_) rfl (by kernel_rfl) (by kernel_rfl) (by kernel_rfl) (fun _ _ _ h => h) (Or.inl ⟨by first | kernel_rfl | rfl, ?_⟩) (by assumption) ?_; rotate_left; (focus (intro w' hSw; (try dsimp only at hSw); go_simp; try (with_reducible rfl))))
    (refine takeH (i := 3) (v := ?_) rfl (by kernel_rfl) (by kernel_rfl) (by kernel_rfl) (fun _ _ _ h => h) (Or.inl ⟨by first | kernel_rfl | rfl, ?_⟩) (by assumption) ?_; rotate_left; (focus (intro w' hSw; (try dsimp only at hSw); go_simp; try (with_reducible rfl))))
    (refine takeH (i := 4) (v := ?_) rfl (by kernel_rfl) (by kernel_rfl) (by kernel_rfl) (fun _ _ _ h => h) (Or.inl ⟨by first | kernel_rfl | rfl, ?_⟩) (by assumption) ?_; rotate_left; (focus (intro w' hSw; (try dsimp only at hSw); go_simp; try (with_reducible rfl))))
    (refine takeH (i := 5) (v := ?_) rfl (by kernel_rfl) (by kernel_rfl) (by kernel_rfl) (fun _ _ _ h => h) (Or.inl ⟨by first | kernel_rfl | rfl, ?_⟩) (by assumption) ?_; rotate_left; (focus (intro w' hSw; (try dsimp only at hSw); go_simp; try (with_reducible rfl))))
    (refine takeH (i := 8) (v := ?_) rfl (by kernel_rfl) (by kernel_rfl) (by kernel_rfl) (fun _ _ _ h => h) (Or.inl ⟨by first | kernel_rfl | rfl, ?_⟩) (by assumption) ?_; rotate_left; (focus (intro w' hSw; (try dsimp only at hSw); go_simp; try (with_reducible rfl))); (try simp only [Act.put, List.setIfInBounds_toArray, List.set_cons_zero, List.set_cons_succ]))
    refine oneH (i := 6) (by kernel_rfl) rfl (fun Kc hK => ?_)
    go_simp
    go_at_call 17
    refine (HIN.out _ g n c1 A1 (HAX2.out.below HBD.out).a.old HAX2.out.hA (by rw [← HSN.out]; exact Nat.le_refl _) ⟨hcc1, hcc2⟩).mono ?_
    rintro e w3 ⟨⟨v3', rfl, hown3⟩, hb3⟩
    have hb3' : Below w2.heap.size w2 w3 := HBD.out.trans (hb3.mono HBD.out.size)
    have HAX3 := Lib.hid (HAX2.out.below hb3')
    obtain ⟨A3, k3, q, rfl, hq1, hq2, hq3, hqg, hql, hins⟩ := ts_start hown3 (show g < w2.drew.heap.size from HAX2.out.a.lts.1) hb3.size
    have HQB : Hid (bl ≠ [] → w2.heap.size ≤ q) := Lib.hid (fun hne => by
     have h0 : 0 < bl.length := List.length_pos_iff.2 hne
     obtain ⟨q', k', hv', hq', -⟩ := hown3.form h0
     have he := hq3 hne
     rw [he] at hv'
     injection hv' with e1
     injection e1 with e2
     injection e2 with e3
     have : w2.drew.heap.size ≤ q' := hq'
     rw [e3]
     exact this)
    have HA3 := Lib.hid hq3
    have HQL := Lib.hid hql
    have HINS := Lib.hid hins
    obtain ⟨nbk, hnbk⟩ : ∃ x, bl.length = x := ⟨_, rfl⟩
    rw [hnbk] at hq1 hblm ⊢
    have HNB := Lib.hid hnbk
    have HSB3 := Lib.hid (HSB.out w3 hb3')
    have HSZ2 := Lib.hid HAX2.out.a.lts
    clear hown3 hb3 hb3' hq3 hqg hql hins hnbk HAX2 HBD HSB
    go_wp2_with fail
    refine hK.out _ _ HSB3.out (fun hHeld => ?_)
    clear hK Kc
    (try simp only [Act.put, List.setIfInBounds_toArray, List.set_cons_zero, List.set_cons_succ])
    (refine takeH (i := 7) (v := ?_) rfl (by kernel_rfl) (by kernel_rfl) (by kernel_rfl) (fun _ _ _ h => h) (Or.inl ⟨by first | kernel_rfl | rfl, ?_⟩) (by assumption) ?_; rotate_left; (focus (intro w' hSw; (try dsimp only at hSw); go_simp; try (with_reducible rfl))); (try simp only [Act.put, List.setIfInBounds_toArray, List.set_cons_zero, List.set_cons_succ]))
    refine wpAnyH_done (by kernel_rfl) ?_ _
    (try simp only [Act.put, List.setIfInBounds_toArray, List.set_cons_zero, List.set_cons_succ])
    clear hHeld HSB3
    go_wp2_with fail
    have HQR : Hid (∀ W', Buts (fun b => b = g ∨ b = B + 3 ∨ b = qi ∨ b = B + 2) w3 W' → ∀ j b, bl[j]? = some b → W'.rangeAt q (j * 3) (blkC g c1 b) ∧ q < W'.heap.size) := Lib.hid (fun W' hW' j b hj => by
     have hne : bl ≠ [] := fun e => by rw [e] at hj; simp at hj
     have h1 := HQB.out hne
     have h2 := HSZ2.out
     have hnq : ¬ (q = g ∨ q = B + 3 ∨ q = qi ∨ q = B + 2) := by omega
     exact ⟨fun k u hu => (hW'.cell q _ (HQL.out hne) hnq).trans (HINS.out j b hj k u hu), Nat.lt_of_lt_of_le (HQL.out hne) hW'.size⟩)
    have HG3 : Hid (GS w w3 w3 g (B + 3) qi (B + 2) ax n (fun _ => .slice none 0 0) (.slice none 0 0) 0 nx zs) := Lib.hid HAX3.out.a
    clear HQB HQL HINS HSZ2
    go_loopw [75] (fun u wr => ∃ (k : Nat) (V : Nat → Value) (sh : Value) (nx' : Int) (zK : List Int), k ≤ nbk ∧ u = .int .i64 k ∧ Hid (GS w w3 wr g (B + 3) qi (B + 2) ax n V sh k nx' zK) ∧ Hid (OneAll bl zs → OneAll bl zK)) (fun u _ => nbk - (intOf u).toNat)
    case atStart => exact ⟨0, _, _, _, _, by omega, rfl, HG3, Lib.hid id⟩
    case round =>
     obtain ⟨k, V, sh, nx', zK, hk, rfl, HGK, HON⟩ := hrel
     clear HG3
     by_cases hlt : k < nbk
     ·obtain ⟨b, hb⟩ : ∃ b, bl[k]? = some b := ⟨_, List.getElem?_eq_getElem (by rw [HNB.out]; exact hlt)⟩
      have hkI : (0 : Int) ≤ (k : Int) ∧ (k : Int) < (nbk : Int) := by omega
      have HBK := Lib.hid hb
      have HBM := Lib.hid (List.mem_of_getElem? hb)
      obtain ⟨hrg, hql⟩ := HQR.out wr HGK.out.buts k b hb
      have HRG := Lib.hid hrg
      have hA3 := HA3.out (fun e => by rw [e] at hb; simp at hb)
      subst hA3
      clear hb hrg
      go_upto_region 14 with (first | refine wpList_load_mid rfl 68 _ rfl q (k * 3) rfl (blkC g c1 b) _ (by simpa using HRG.out) Tryd.underlying68 rfl ins_size ?_ | refine wpList_load_mid rfl 68 _ rfl q (k * 3) rfl (blkC g c1 b) _ HRG.out Tryd.underlying68 rfl ins_size ?_ | refine wpList_store_new rfl 68 _ _ rfl wr _ (blkC g c1 b).toArray rfl rfl rfl ins_size rfl (blkC_one g c1 b) ?_)
      refine wp_name fun W4 hW4 => ?_
      obtain ⟨Vb, hV⟩ : ∃ x, x = wr.heap.size := ⟨_, rfl⟩
      have hh4 : W4.heap[Vb]? = some (.cells (blkC g c1 b).toArray 68) := by rw [hW4.out, hV]; exact heap_alloc_new _ _
      have hb4 : Below wr.heap.size wr W4 := by rw [hW4.out]; exact belowBy
      have HG4 := Lib.hid (HGK.out.below hb4)
      have HVV : Hid (∀ W', Below W4.heap.size W4 W' → W'.cell? ⟨Vb, 0, none⟩ = some (.int .i64 (b.num : Int)) ∧ W'.cell? ⟨Vb, 1, none⟩ = some (.int .i64 b.kind) ∧ W'.cell? ⟨Vb, 2, none⟩ = some (.slice (some ⟨g, b.off, none⟩) (rcount b.kind) (c1 - b.off)) ∧ Vb < W'.heap.size) := Lib.hid (fun W' hW' => by
       have hl : Vb < W4.heap.size := (Array.getElem?_eq_some_iff.1 hh4).1
       exact ⟨(hW'.cell (p := ⟨Vb, 0, none⟩) hl).trans (heap_cell 0 _ hh4 rfl), (hW'.cell (p := ⟨Vb, 1, none⟩) hl).trans (heap_cell 1 _ hh4 rfl), (hW'.cell (p := ⟨Vb, 2, none⟩) hl).trans (heap_cell 2 _ hh4 rfl), Nat.lt_of_lt_of_le hl hW'.size⟩)
      (try rw [← hV])
      (try simp only [Act.put])
      clear hW4 hV hh4 hb4 hql HRG HGK
      have HMOT := Lib.hid (HBO.out.mot b HBM.out)
      have HLEN := Lib.hid (HBO.out.len b HBM.out)
      have HZL := Lib.hid HG4.out.len
      obtain ⟨kd, hkd⟩ : ∃ x, b.kind = x := ⟨_, rfl⟩
      have HKD := Lib.hid hkd
      rw [hkd] at HVV HMOT HLEN
      clear hkd
      have hkinds := mot_kind HMOT.out
      have hone := mot_count HMOT.out
      obtain ⟨z0, hz0⟩ : ∃ z, zK[b.off]? = some z := ⟨_, List.getElem?_eq_getElem (by rw [HZL.out]; have := HLEN.out; omega)⟩
      obtain ⟨z1, hz1⟩ : ∃ z, zK[b.off + 1]? = some z := ⟨_, List.getElem?_eq_getElem (by rw [HZL.out]; have := HLEN.out; have := mot_two HMOT.out; omega)⟩
      have HZ0 := Lib.hid hz0
      have HZ1 := Lib.hid hz1
      clear hz0 hz1 hone
      have HKS := Lib.hid hkinds
      clear hkinds
      have hcb := HLEN.out
      obtain ⟨v0, v1, v2, lV⟩ := HVV.out W4 (Below.refl _ _)
      by_cases h20 : kd = 20
      ·subst h20
       have hc20 : rcount 20 = 4 := othK.c20
       have HC4 : Hid (rcount 20 = 4) := Lib.hid hc20
       rw [hc20] at v2 hcb
       clear hc20
       have hcap : 4 ≤ c1 - b.off ∧ c1 - b.off ≤ 9223372036854775807 := by omega
       have hfit : b.off + 4 ≤ n := by omega
       have HCAP := Lib.hid hcap
       have HFIT := Lib.hid hfit
       clear hcap hfit
       obtain ⟨na, hna⟩ : ∃ x, axN z0 = x := ⟨_, rfl⟩
       cases ho : axOk z0 ax
       ·have HOK := Lib.hid ho
        have HNA := Lib.hid hna
        clear ho hna
        go_wp2_with fail
        refine (HG4.out.baxis (i := (b.num : Int)) HT.out HCAP.out z0 na false othK.a20 (by decide) HZ0.out HNA.out HOK.out).mono ?_
        rintro e w5 ⟨rfl, hb5⟩
        have HG5 := Lib.hid (HG4.out.below hb5)
        clear hb5 v0 v1 v2 lV HG4
        go_wp2
        go_roundw
        case rel => exact ⟨k + 1, V, sh, nx', zK, by omega, by go_num, Lib.hid (HG5.out.more (Nat.le_succ k)), HON⟩
        case measure => simp [intOf]; omega
       ·obtain ⟨k0, hk0, hk0a⟩ := axOk_yes ho
        have hkA : (0 : Int) ≤ (k0 : Int) ∧ (k0 : Int) < (ax : Int) := by omega
        have HNA : Hid (axN z0 = (k0 : Int)) := Lib.hid (by rw [hk0]; unfold axN; omega)
        have HOK := Lib.hid ho
        have HKA := Lib.hid hk0a
        clear ho hna hk0 hk0a
        go_wp2_with fail
        refine (HG4.out.baxis (i := (b.num : Int)) HT.out HCAP.out z0 (k0 : Int) true othK.a20 (by decide) HZ0.out HNA.out HOK.out).mono ?_
        rintro e w5 ⟨rfl, hb5⟩
        have HG5 := Lib.hid (HG4.out.below hb5)
        have HS5 := Lib.hid hb5
        clear hb5 v0 v1 v2 lV HG4
        obtain ⟨v0, v1, v2, lV⟩ := HVV.out w5 HS5.out
        rw [HC4.out] at v2
        go_wp2_with fail
        refine (HG5.out.bget (i := (b.num : Int)) HT.out HCAP.out ⟨#[69, 110, 97, 98, 108, 101]⟩ 1 z1 px_oth.2.2.2.2.2.2.2 (by decide) HZ1.out).mono ?_
        rintro e w6 ⟨rfl, hb6⟩
        have HG6 := Lib.hid (HG5.out.below hb6)
        clear hb6 v0 v1 v2 lV HG5
        by_cases hz1 : z1 = 0
        ·subst hz1
         go_wp2
         go_roundw
         case rel => exact ⟨k + 1, V, sh, nx', zK, by omega, by go_num, Lib.hid (HG6.out.more (Nat.le_succ k)), HON⟩
         case measure => simp [intOf]; omega
        ·have u1 : (z1 != 0) = true := by simp [hz1]
         clear hz1
         have k2 := HG6.out.k2
         obtain ⟨lg, lK, lq, lqk⟩ := HG6.out.lts
         obtain ⟨rv, hrv⟩ := HG6.out.ib k0 0 HKA.out (.inl rfl)
         rw [Nat.add_zero] at hrv
         have qf := HG6.out.qf (k0 * 12)
         clear lg lqk
         go_upto_region 26 with (fail)
         refine wp_name fun W7 hW7 => ?_
         have HG7 : Hid (GS w w3 W7 g (B + 3) qi (B + 2) ax n V sh k nx' zK) := Lib.hid (by
          rw [hW7.out]
          have := HG6.out.putQ k0 0 (.bool true) (.inl ⟨.inl rfl, true, rfl⟩)
          rw [Nat.add_zero] at this
          exact this)
         clear hW7 k2 lK lq hrv qf HG6
         go_wp2
         go_roundw
         case rel => exact ⟨k + 1, V, sh, nx', zK, by omega, by go_num, Lib.hid (HG7.out.more (Nat.le_succ k)), HON⟩
         case measure => simp [intOf]; omega
      have u20 : (kd == 20) = false := by simp [h20]
      have H20 := Lib.hid h20
      clear h20
      go_wp2_with fail
      refine (commands_any kd _).mono ?_
      rintro e w' ⟨rfl, rfl⟩
      cases hcm : cmdB kd
      ·have HCM := Lib.hid hcm
       clear hcm
       by_cases h29 : kd = 29
       ·subst h29
        have hcc : rcount 29 = 5 := othK.c29
        rw [hcc] at v2 hcb
        clear hcc
        obtain ⟨y0, hy0⟩ : ∃ z, zK[b.off + 4]? = some z := ⟨_, List.getElem?_eq_getElem (by rw [HZL.out]; omega)⟩
        have HY := Lib.hid hy0
        clear hy0
        have HOT : Hid (OtIn w w3 W4 g (B + 3) qi (B + 2) ax n V sh k nx' zK b.off 5 (c1 - b.off) z0 z1) := Lib.hid ⟨HG4.out, by omega, by omega, HT.out, ⟨HAX.out, by omega⟩, HZ0.out, HZ1.out⟩
        clear hcb HG4
        go_wp2_with fail
        refine (resets_any (b.num : Int) b.off (c1 - b.off) g (B + 3) qi (B + 2) ax n k V sh nx' zK z0 z1 y0 w w3 W4 HOT.out HY.out).mono ?_
        rintro e w6 ⟨rfl, V', sh', nx2, zN, hgs, hst⟩
        have HG6 := Lib.hid hgs
        have HST := Lib.hid hst
        clear hgs hst v0 v1 v2 lV HOT
        go_wp2
        go_roundw
        case rel => exact ⟨k + 1, V', sh', nx2, zN, by omega, by go_num, HG6, Lib.hid (fun h => (HON.out h).step HAP.out HBK.out (by rw [HKD.out]; exact HST.out))⟩
        case measure => simp [intOf]; omega
       have u29 : (kd == 29) = false := by simp [h29]
       have H29 := Lib.hid h29
       clear h29
       by_cases h30 : kd = 30
       ·subst h30
        have hcc : rcount 30 = 6 := othK.c30
        rw [hcc] at v2 hcb
        clear hcc
        obtain ⟨y0, hy0⟩ : ∃ z, zK[b.off + 5]? = some z := ⟨_, List.getElem?_eq_getElem (by rw [HZL.out]; omega)⟩
        have HY := Lib.hid hy0
        clear hy0
        have HOT : Hid (OtIn w w3 W4 g (B + 3) qi (B + 2) ax n V sh k nx' zK b.off 6 (c1 - b.off) z0 z1) := Lib.hid ⟨HG4.out, by omega, by omega, HT.out, ⟨HAX.out, by omega⟩, HZ0.out, HZ1.out⟩
        clear hcb HG4
        go_wp2_with fail
        refine (places_any (b.num : Int) b.off (c1 - b.off) g (B + 3) qi (B + 2) ax n k V sh nx' zK z0 z1 y0 w w3 W4 HOT.out HY.out).mono ?_
        rintro e w6 ⟨rfl, V', sh', nx2, zN, hgs, hst⟩
        have HG6 := Lib.hid hgs
        have HST := Lib.hid hst
        clear hgs hst v0 v1 v2 lV HOT
        go_wp2
        go_roundw
        case rel => exact ⟨k + 1, V', sh', nx2, zN, by omega, by go_num, HG6, Lib.hid (fun h => (HON.out h).step HAP.out HBK.out (by rw [HKD.out]; exact HST.out))⟩
        case measure => simp [intOf]; omega
       have u30 : (kd == 30) = false := by simp [h30]
       have H30 := Lib.hid h30
       clear h30
       obtain rfl : kd = 31 := by
        have h1 := HKS.out
        have h2 := HCM.out
        unfold cmdB at h2
        simp only [Bool.and_eq_false_iff, decide_eq_false_iff_not] at h2
        have h3 := H20.out
        have h4 := H29.out
        have h5 := H30.out
        omega
       have hcc : rcount 31 = 4 := othK.c31
       rw [hcc] at v2 hcb
       clear hcc
       have HOT : Hid (OtIn w w3 W4 g (B + 3) qi (B + 2) ax n V sh k nx' zK b.off 4 (c1 - b.off) z0 z1) := Lib.hid ⟨HG4.out, by omega, by omega, HT.out, ⟨HAX.out, by omega⟩, HZ0.out, HZ1.out⟩
       clear hcb HG4
       go_wp2_with fail
       refine (percents_any (b.num : Int) b.off (c1 - b.off) g (B + 3) qi (B + 2) ax n k V sh nx' zK z0 z1 w w3 W4 HOT.out).mono ?_
       rintro e w6 ⟨rfl, V', sh', nx2, zN, hgs, hst⟩
       have HG6 := Lib.hid hgs
       have HST := Lib.hid hst
       clear hgs hst v0 v1 v2 lV HOT
       go_wp2
       go_roundw
       case rel => exact ⟨k + 1, V', sh', nx2, zN, by omega, by go_num, HG6, Lib.hid (fun h => (HON.out h).step HAP.out HBK.out (by rw [HKD.out]; exact HST.out))⟩
       case measure => simp [intOf]; omega
      ·have HCM := Lib.hid hcm
       have HKC : Hid (21 ≤ kd ∧ kd ≤ 28) := Lib.hid (by unfold cmdB at hcm; simpa only [Bool.and_eq_true, decide_eq_true_eq] using hcm)
       clear hcm
       have hcc := (cmdK HKC.out).cnt
       rw [hcc] at v2 hcb
       obtain ⟨y0, hy0⟩ : ∃ z, zK[b.off + (outsN kd + 5)]? = some z := ⟨_, List.getElem?_eq_getElem (by rw [HZL.out]; omega)⟩
       obtain ⟨y1, hy1⟩ : ∃ z, zK[b.off + (outsN kd + 5 + 1)]? = some z := ⟨_, List.getElem?_eq_getElem (by rw [HZL.out]; omega)⟩
       have HAS : Hid (AsIn w w3 W4 g (B + 3) qi (B + 2) ax n V sh k nx' zK kd b.off (c1 - b.off) z0 z1 y0 y1) := Lib.hid ⟨HG4.out, HKC.out, by omega, by omega, HT.out, ⟨HAX.out, by omega⟩, HZ0.out, HZ1.out, hy0, hy1⟩
       clear hcc hcb hy0 hy1 HG4
       go_wp2_with fail
       refine (asks_any (b.num : Int) kd b.off (c1 - b.off) g (B + 3) qi (B + 2) ax n k V sh nx' zK z0 z1 y0 y1 w w3 W4 HAS.out).mono ?_
       rintro e w6 ⟨rfl, V', sh', nx2, zN, hgs, hst⟩
       have HG6 := Lib.hid hgs
       have HST := Lib.hid hst
       clear hgs hst v0 v1 v2 lV HAS
       go_wp2
       go_roundw
       case rel => exact ⟨k + 1, V', sh', nx2, zN, by omega, by go_num, HG6, Lib.hid (fun h => (HON.out h).step HAP.out HBK.out (by rw [HKD.out]; exact HST.out))⟩
       case measure => simp [intOf]; omega
     ·obtain rfl : k = nbk := by omega
      have k5 := HGK.out.k5
      have lK := HGK.out.lts.2.1
      go_wp2_with fail
      clear k5 lK
      have HK0 : Hid (w3.cell? ⟨B + 3, 0, none⟩ = some (.slice A1 n c1)) := Lib.hid HAX3.out.k0
      have HRR : Hid (∀ j, j < 4 → ∃ v, w3.cell? ⟨B + 1, j, none⟩ = some v) := Lib.hid HAX3.out.rc
      have HRF : Hid (∀ o, w3.frozen? ⟨B + 1, o, none⟩ = false) := Lib.hid HAX3.out.rf
      have HGA : Hid (0 < n → A1 = some ⟨g, 0, none⟩) := Lib.hid HAX3.out.hA
      have HGB : Hid (¬ (B + 1 = g ∨ B + 1 = B + 3 ∨ B + 1 = qi ∨ B + 1 = B + 2) ∧ B + 1 < w3.heap.size) := Lib.hid (by have h1 := HAX3.out.gB; have h2 := HAX3.out.qB; have h3 := HAX3.out.lt; omega)
      clear HAX3 HQR HA3 HNB
      go_loopw [137] (fun u wr => ∃ (j : Nat), j ≤ ax ∧ u = .int .i64 j ∧ Hid (GS w w3 wr g (B + 3) qi (B + 2) ax n V sh k nx' zK)) (fun u _ => ax - (intOf u).toNat)
      case atStart => exact ⟨0, by omega, rfl, HGK⟩
      case round =>
       obtain ⟨j, hj, rfl, HGJ⟩ := hrel
       clear HGK
       by_cases hltj : j < ax
       ·have k2 := HGJ.out.k2
        obtain ⟨lg, lK, lq, lqk⟩ := HGJ.out.lts
        obtain ⟨bv, hbv⟩ := HGJ.out.kb j hltj
        obtain ⟨z8, i8⟩ := HGJ.out.ib j 8 hltj (.inr (.inr rfl))
        have qf := HGJ.out.qf (j * 12 + 8)
        have hjI : (0 : Int) ≤ (j : Int) ∧ (j : Int) < (ax : Int) := by omega
        clear lg
        go_upto_region 31 with (fail)
        refine wp_name fun W8 hW8 => ?_
        have HG8 : Hid (GS w w3 W8 g (B + 3) qi (B + 2) ax n V sh k nx' zK) := Lib.hid (by rw [hW8.out]; exact HGJ.out.putQ j 8 _ (.inl ⟨.inr (.inr rfl), _, rfl⟩))
        clear hW8 k2 lK lq lqk hbv i8 qf HGJ
        go_wp2
        go_roundw
        case rel => exact ⟨j + 1, by omega, by go_num, HG8⟩
        case measure => simp [intOf]; omega
       ·obtain rfl : ax = j := by omega
        have k0 := HGJ.out.k0.trans HK0.out
        have k1 := HGJ.out.k1
        have k2 := HGJ.out.k2
        have k3 := HGJ.out.k3
        obtain ⟨lg, lK, lq, lqk⟩ := HGJ.out.lts
        have hr : ∀ o, wr.cell? ⟨B + 1, o, none⟩ = w3.cell? ⟨B + 1, o, none⟩ := fun o => HGJ.out.buts.cell _ _ HGB.out.2 HGB.out.1
        obtain ⟨x0, r0⟩ := HRR.out 0 (by decide)
        obtain ⟨x1, r1⟩ := HRR.out 1 (by decide)
        obtain ⟨x2, r2⟩ := HRR.out 2 (by decide)
        obtain ⟨x3, r3⟩ := HRR.out 3 (by decide)
        rw [← hr] at r0 r1 r2 r3
        have hrf : ∀ o, wr.frozen? ⟨B + 1, o, none⟩ = false := fun o => (HGJ.out.buts.froz _ _ HGB.out.2 HGB.out.1).trans (HRF.out o)
        have rf0 := hrf 0
        have rf1 := hrf 1
        have rf2 := hrf 2
        have rf3 := hrf 3
        have lR : B + 1 < wr.heap.size := by omega
        have HRN2 : Hid (RowN wr A1 zK c1) := Lib.hid (by
         refine ⟨by rw [HGJ.out.len]; omega, by omega, fun i z hz => ?_⟩
         have hi := (List.getElem?_eq_some_iff.1 hz).1
         exact ⟨g, 0, HGA.out (by rw [HGJ.out.len] at hi; omega), HGJ.out.row.lt, by rw [Nat.zero_add]; exact HGJ.out.row.cell _ _ hz⟩)
        obtain ⟨As, csh, qsh, hsh⟩ : ∃ As csh qsh, sh = .slice As qsh csh := by
         obtain ⟨qq, xx, -, ho⟩ := HGJ.out.osh
         obtain ⟨As, csh, hsh, -⟩ := own_form ho
         exact ⟨As, csh, qq, hsh⟩
        subst hsh
        clear hr hrf lg lq lqk
        go_wp2
        refine bodyPost_ret (v := .agg #[.slice A1 n c1, .int .i64 nx', .slice (some ⟨qi, 0, none⟩) ax ax, .slice As qsh csh]) (by simp [results, Tryd.results9, go_sem, r0, r1, r2, r3, rf0, rf1, rf2, rf3]) rfl ⟨⟨A1, c1, nx', _, _, zK, rfl, HGJ.out.len, ?_, HAA.out, HON.out, rfl, rfl⟩, ?_⟩
        ·obtain ⟨h1, h2, h3⟩ := HRN2.out
         refine ⟨h1, h2, fun i z hz => ?_⟩
         have hi := (List.getElem?_eq_some_iff.1 hz).1
         have hg := HGA.out (by rw [HGJ.out.len] at hi; omega)
         exact ⟨g, 0, hg, Nat.lt_of_lt_of_le HGJ.out.lts.1 (But.size (((((But.refl (B + 1) wr).set 0 _).set 1 _).set 2 _).set 3 _)), by rw [Nat.zero_add]; exact (But.cell (((((But.refl (B + 1) wr).set 0 _).set 1 _).set 2 _).set 3 _) g _ HGJ.out.lts.1 (fun e => HGB.out.1 (.inl e.symm))).trans (HGJ.out.row.cell _ _ hz)⟩
        ·exact HGJ.out.oldW.trans (But.below (((((But.refl (B + 1) wr).set 0 _).set 1 _).set 2 _).set 3 _) _ (by omega) HGJ.out.oldW.size)

end Go.Proofs.YtknnhnefbbjcdaaDoor
