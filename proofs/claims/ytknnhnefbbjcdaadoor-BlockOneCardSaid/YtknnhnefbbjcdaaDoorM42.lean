/- Merged: Layer 20, the reference: a type is told of any expression that fits. Layer 20, the reference: what is known as a statement's check begins. PRINTED by wip/tool/mkstm20.py -/
import Derived.Test.YtknnhnefbbjcdaaDoorM13
import Derived.Test.YtknnhnefbbjcdaaDoorLayB8
import Derived.Test.YtknnhnefbbjcdaaDoorLayB9
import Derived.Test.YtknnhnefbbjcdaaDoorM40
import Derived.Test.YtknnhnefbbjcdaaDoorTreeF
import Derived.Great.Ranges
namespace Go.Proofs.YtknnhnefbbjcdaaDoor
open Go.RowKit
set_option linter.unusedVariables false
set_option linter.unusedSimpArgs false

set_option maxHeartbeats 1000000 in
theorem type20_at : ∀ (k : Nat) (x : Ex), SizeOf.sizeOf x < k → FitE x → ∀ (vs : List VarS) (w : World) (vA A : Option Addr) (vcap cap : Nat), RowV w vA vs vcap → RowE w A x.sub cap → Calls Tryd.prog 59 #[.slice vA vs.length vcap, .agg (ExC x A cap).toArray] w fun e w' => TyR e ∧ Below w.heap.size w w' := by
 intro k
 induction k with
 | zero => intro x h; omega
 | succ k ih =>
  intro x hsz hfit vs w vA A vcap cap hv hsub
  obtain ⟨hfx, hfs⟩ := hfit.parts
  have hin : TyIn x w A vA vcap cap vs.length x.op x.line x.sub.length := by
   refine ⟨fun W hW => find20_form vs x.name W vA vcap (hv.below hW), fun y hy W hW As ks _ h2 => ?_, hsub, rfl, rfl, rfl⟩
   have h3 : SizeOf.sizeOf y < k := by
    have h4 := List.sizeOf_lt_of_mem hy
    have h5 : SizeOf.sizeOf x.sub < SizeOf.sizeOf x := by
     cases x
     simp [Ex.sub]
     omega
    omega
   exact ih y h3 (hfs y hy) vs W vA As vcap ks (hv.below hW) h2
  have ho1 := hfx.lo
  have ho2 := hfx.hi
  have hns := hfx.subs
  unfold subsN at hns
  rcases (show x.op = 1 ∨ x.op = 2 ∨ x.op = 3 ∨ x.op = 4 ∨ x.op = 5 ∨ (6 ≤ x.op ∧ x.op < 8) ∨ 8 ≤ x.op by omega) with h | h | h | h | h | h | h
  ·exact type20_k1 x w A vA vcap cap vs.length _ _ _ hin ⟨h, by rw [hns, h]; rfl⟩
  ·exact type20_k2 x w A vA vcap cap vs.length _ _ _ hin ⟨h, by rw [hns, h]; rfl⟩
  ·exact type20_k3 x w A vA vcap cap vs.length _ _ _ hin ⟨h, by rw [hns, h]; rfl⟩
  ·exact type20_k4 x w A vA vcap cap vs.length _ _ _ hin ⟨h, by rw [hns, h]; rfl⟩
  ·exact type20_k5 x w A vA vcap cap vs.length _ _ _ hin ⟨h, by rw [hns, h]; rfl⟩
  ·exact type20_k6 x w A vA vcap cap vs.length _ _ _ hin ⟨h.1, h.2, by rw [hns, if_pos (by omega)]⟩
  ·have hn2 : x.sub.length = 2 := by rw [hns, if_neg (by omega), if_pos (by omega)]
   rcases (show x.op = 8 ∨ x.op = 9 ∨ x.op = 10 ∨ x.op = 11 ∨ x.op = 12 ∨ x.op = 13 ∨ x.op = 14 ∨ x.op = 15 ∨ x.op = 16 ∨ x.op = 17 ∨ x.op = 18 ∨ x.op = 19 ∨ x.op = 20 ∨ x.op = 21 by omega) with h | h | h | h | h | h | h | h | h | h | h | h | h | h
   ·exact type20_k8_8 x w A vA vcap cap vs.length _ _ _ hin ⟨h, hn2⟩
   ·exact type20_k8_9 x w A vA vcap cap vs.length _ _ _ hin ⟨h, hn2⟩
   ·exact type20_k8_10 x w A vA vcap cap vs.length _ _ _ hin ⟨h, hn2⟩
   ·exact type20_k8_11 x w A vA vcap cap vs.length _ _ _ hin ⟨h, hn2⟩
   ·exact type20_k8_12 x w A vA vcap cap vs.length _ _ _ hin ⟨h, hn2⟩
   ·exact type20_k8_13 x w A vA vcap cap vs.length _ _ _ hin ⟨h, hn2⟩
   ·exact type20_k8_14 x w A vA vcap cap vs.length _ _ _ hin ⟨h, hn2⟩
   ·exact type20_k8_15 x w A vA vcap cap vs.length _ _ _ hin ⟨h, hn2⟩
   ·exact type20_k8_16 x w A vA vcap cap vs.length _ _ _ hin ⟨h, hn2⟩
   ·exact type20_k8_17 x w A vA vcap cap vs.length _ _ _ hin ⟨h, hn2⟩
   ·exact type20_k8_18 x w A vA vcap cap vs.length _ _ _ hin ⟨h, hn2⟩
   ·exact type20_k8_19 x w A vA vcap cap vs.length _ _ _ hin ⟨h, hn2⟩
   ·exact type20_k8_20 x w A vA vcap cap vs.length _ _ _ hin ⟨h, hn2⟩
   ·exact type20_k8_21 x w A vA vcap cap vs.length _ _ _ hin ⟨h, hn2⟩
theorem type20_any (x : Ex) (hf : FitE x) (vs : List VarS) (w : World) (vA A : Option Addr) (vcap cap : Nat) (hv : RowV w vA vs vcap) (hsub : RowE w A x.sub cap) : Calls Tryd.prog 59 #[.slice vA vs.length vcap, .agg (ExC x A cap).toArray] w fun e w' => TyR e ∧ Below w.heap.size w w' :=
 type20_at _ x (Nat.lt_succ_self _) hf vs w vA A vcap cap hv hsub
theorem wants20_any (x : Ex) (hf : FitE x) (t : Int) (vs : List VarS) (w : World) (vA A : Option Addr) (vcap cap : Nat) (hv : RowV w vA vs vcap) (hsub : RowE w A x.sub cap) : Calls Tryd.prog 60 #[.slice vA vs.length vcap, .agg (ExC x A cap).toArray, .int .i64 t] w fun e w' => ErrR e ∧ Below w.heap.size w w' :=
 wants20_of x A vA cap vs.length vcap t w (fun W hW => type20_any x hf vs W vA A vcap cap (hv.below hW) (hsub.below hW))

end Go.Proofs.YtknnhnefbbjcdaaDoor

namespace Go.Proofs.YtknnhnefbbjcdaaDoor
open Go.RowKit
set_option linter.unusedVariables false
set_option linter.unusedSimpArgs false
attribute [local go_sem] ite_max ite_min vite_max vite_min ext_cell ext_frozen extS_cell extS_frozen

theorem ExAt.row {w : World} {x : Ex} {A : Option Addr} {k : Nat} (h : ExAt w x (ExC x A k)) : RowE w A x.sub k := by
 obtain ⟨A', k', e, h', -⟩ := h.form
 simp [ExC] at e
 obtain ⟨rfl, rfl⟩ := e
 exact h'
structure ResV (W : World) (E : Nat) : Prop where
 lt : E < W.heap.size
 r0 : W.cell? ⟨E, 0, none⟩ = some (.int .i64 0)
 r1 : W.cell? ⟨E, 1, none⟩ = some (.int .i64 0)
 q0 : W.frozen? ⟨E, 0, none⟩ = false
 q1 : W.frozen? ⟨E, 1, none⟩ = false
theorem ResV.below {W W' : World} {E : Nat} (h : ResV W E) (hb : Below W.heap.size W W') : ResV W' E :=
 ⟨Nat.lt_of_lt_of_le h.lt hb.size, (hb.cell (p := ⟨E, 0, none⟩) h.lt).trans h.r0, (hb.cell (p := ⟨E, 1, none⟩) h.lt).trans h.r1, (hb.frozen (p := ⟨E, 0, none⟩) h.lt).trans h.q0, (hb.frozen (p := ⟨E, 1, none⟩) h.lt).trans h.q1⟩
theorem SV.range {w : World} {B : Nat} {s : Stm} {m : SM} (h : SV w B 0 s m) : w.rangeAt B 0 (StmC s m) := fun j u hu => h.cell j u hu
theorem SV.rangeDst {w : World} {B : Nat} {s : Stm} {m : SM} (h : SV w B 0 s m) : w.rangeAt B 2 (ExC s.dst m.ta m.tk) := fun j u hu => by
 have := h.at0 (2 + j) u (by rw [show StmC s m = [.int .i64 s.op, .string s.name] ++ ExC s.dst m.ta m.tk ++ ExC s.src m.va m.vk ++ [.slice m.ca s.conds.length m.ck, .slice m.la s.labels.length m.lk, .slice m.fa s.fields.length m.fk, .slice m.ba s.blocks.length m.bk, .int .i64 s.line] from rfl, List.append_assoc, List.append_assoc, List.getElem?_append_right (by simp)]; rw [List.getElem?_append_left (by have := (List.getElem?_eq_some_iff.1 hu).1; simp only [List.length_cons, List.length_nil]; omega)]; simpa using hu)
 exact this
theorem SV.rangeSrc {w : World} {B : Nat} {s : Stm} {m : SM} (h : SV w B 0 s m) : w.rangeAt B 8 (ExC s.src m.va m.vk) := fun j u hu => by
 have hl : (ExC s.dst m.ta m.tk).length = 6 := rfl
 have := h.at0 (8 + j) u (by rw [show StmC s m = ([.int .i64 s.op, .string s.name] ++ ExC s.dst m.ta m.tk) ++ ExC s.src m.va m.vk ++ [.slice m.ca s.conds.length m.ck, .slice m.la s.labels.length m.lk, .slice m.fa s.fields.length m.fk, .slice m.ba s.blocks.length m.bk, .int .i64 s.line] from rfl, List.append_assoc, List.getElem?_append_right (by simp [hl])]; rw [List.getElem?_append_left (by have := (List.getElem?_eq_some_iff.1 hu).1; simp only [List.length_append, List.length_cons, List.length_nil, hl]; omega)]; simpa [hl] using hu)
 exact this
structure StIn (s : Stm) (m : SM) (w : World) (vA : Option Addr) (vcap nv : Nat) : Prop where
 find : ∀ nm W, Below w.heap.size w W → Calls Tryd.prog 32 #[.slice vA nv vcap, .string nm] W fun e w' => (∃ (v : VarS) (ok : Bool), e = .returned (.tuple #[.agg v.cells.toArray, .bool ok])) ∧ Below W.heap.size W w'
 ty : ∀ x, FitE x → ∀ W, Below w.heap.size w W → ∀ A k, RowE W A x.sub k → Calls Tryd.prog 59 #[.slice vA nv vcap, .agg (ExC x A k).toArray] W fun e w' => TyR e ∧ Below W.heap.size W w'
 wants : ∀ x, FitE x → ∀ t W, Below w.heap.size w W → ∀ A k, RowE W A x.sub k → Calls Tryd.prog 60 #[.slice vA nv vcap, .agg (ExC x A k).toArray, .int .i64 t] W fun e w' => ErrR e ∧ Below W.heap.size W w'
 blocks : ∀ bl ∈ s.blocks, ∀ W, Below w.heap.size w W → ∀ A k lp, RowT W A bl k → Calls Tryd.prog 34 #[.slice vA nv vcap, .slice A bl.length k, .bool lp] W fun e w' => ErrR e ∧ Below W.heap.size W w'
 call : s.op = 9 → ∀ W, Below w.heap.size w W → Calls Tryd.prog 61 #[.slice vA nv vcap, .agg (StmC s m).toArray] W fun e w' => ErrR e ∧ Below W.heap.size W w'
 sv : ∀ W B, Below w.heap.size w W → W.heap[B]? = some (.cells (StmC s m).toArray 124) → SV W B 0 s m
 fit : FitS1 s
theorem SV.ofAt {w : World} {s : Stm} {m : SM} (h : StmAt w s (StmC s m)) : ∀ W B, Below w.heap.size w W → W.heap[B]? = some (.cells (StmC s m).toArray 124) → SV W B 0 s m := by
 intro W B hb hh
 obtain ⟨m', e, h1, h2, h3, h4, h5, h6, h7, h8⟩ := h.form19
 have hm : m = m' := by
  cases m
  cases m'
  simp [StmC] at e
  simp_all
 subst hm
 exact ⟨(Array.getElem?_eq_some_iff.1 hh).1, fun j u hu => by rw [Nat.zero_add]; exact heap_cell j _ hh (by rw [List.getElem?_toArray]; exact hu), h1.keep hb, h2.keep hb, h3.below hb, h4.below hb, h5.below hb, h6.below hb, h7, h8⟩

end Go.Proofs.YtknnhnefbbjcdaaDoor
