/- Merged: A program's size is told, whatever it is. A statement's cells, one by one; the size of a row of statements. -/
import Derived.Test.YtknnhnefbbjcdaaDoorM01
import Derived.Test.YtknnhnefbbjcdaaDoorBase
import Derived.Test.YtknnhnefbbjcdaaDoorM02
import Derived.Test.YtknnhnefbbjcdaaDoorApp
namespace Go.Proofs.YtknnhnefbbjcdaaDoor
open Go.RowKit
set_option linter.unusedVariables false
set_option linter.unusedSimpArgs false
attribute [local go_sem] ite_max ite_min vite_max vite_min ext_cell ext_frozen

theorem sub_lt {x : Ex} {xs : List Ex} {i : Nat} (h : xs[i]? = some x) : SizeOf.sizeOf x.sub < SizeOf.sizeOf xs := by
 have h1 := List.sizeOf_lt_of_mem (List.mem_of_getElem? h)
 have h2 : SizeOf.sizeOf x.sub < SizeOf.sizeOf x := by
  cases x
  simp [Ex.sub]
  omega
 omega
def TwoI (e : Ending) : Prop := ∃ a b : Int, e = .returned (.tuple #[.int .i64 a, .int .i64 b])

set_option maxRecDepth 100000 in
set_option maxHeartbeats 2000000 in
theorem sizeExprs_any : ∀ (k : Nat) (xs : List Ex), SizeOf.sizeOf xs < k → ∀ (w : World) (A : Option Addr) (cap : Nat) (m : Int), RowE w A xs cap → Calls Tryd.prog 58 #[.slice A xs.length cap, .int .i64 m] w fun e w' => TwoI e ∧ Below w.heap.size w w' := by
 intro k
 induction k with
 | zero => intro xs h; omega
 | succ k ih =>
  intro xs hsz w A cap m hrow
  have HIH := Lib.hid ih
  have HR := Lib.hid hrow
  have hl := hrow.1
  have hc := hrow.2.1
  obtain ⟨n, hn⟩ : ∃ n, xs.length = n := ⟨_, rfl⟩
  rw [hn] at hl ⊢
  have HN := Lib.hid hn
  clear ih hrow hn
  go_enter Tryd.func58, Tryd.ntmps58
  go_wp2_with fail
  go_loopw [6, 7, 8] (fun va vb vi wr => ∃ (i : Nat) (a b : Int), i ≤ n ∧ va = .int .i64 a ∧ vb = .int .i64 b ∧ vi = .int .i64 i ∧ Below w.heap.size w wr) (fun _ _ vi _ => n - (intOf vi).toNat)
  case atStart => exact ⟨0, 0, 0, by omega, rfl, rfl, rfl, Below.refl _ _⟩
  case round =>
   obtain ⟨i, a, b, hi, rfl, rfl, rfl, hbr⟩ := hrel
   by_cases hlt : i < n
   ·by_cases hle : a ≤ m
    ·obtain ⟨bb, off, x, cs, rfl, hbl, hx, hat, hcell⟩ := RowOf.at (HR.out.below hbr) (i := i) (by rw [HN.out]; exact hlt)
     obtain ⟨As, ks, rfl, hsub, -, -, -⟩ := hat.form
     have c4 : wr.cell? ⟨bb, off + i * 6 + 4, none⟩ = some (.slice As x.sub.length ks) := hcell 4 (by omega)
     have hi0 : (0 : Int) ≤ (i : Int) ∧ (i : Int) < (n : Int) := by omega
     have HX := Lib.hid hx
     have HS := Lib.hid hsub
     clear hat hcell hx hsub
     go_wp2_with fail
     refine (HIH.out x.sub (by have := sub_lt HX.out; omega) _ _ _ _ HS.out).mono ?_
     rintro e w2 ⟨⟨a2, b2, rfl⟩, hb2⟩
     go_wp2
     go_roundw
     case rel => exact ⟨i + 1, _, _, by omega, rfl, rfl, by go_num, by exact belowBy⟩
     case measure => simp [intOf]; omega
    ·have hi0 : (i : Int) < (n : Int) := by omega
     go_wp2
     go_ret2
     exact ⟨⟨_, _, rfl⟩, hbr⟩
   ·obtain rfl : i = n := by omega
    go_wp2
    go_ret2
    exact ⟨⟨_, _, rfl⟩, hbr⟩

end Go.Proofs.YtknnhnefbbjcdaaDoor

namespace Go.Proofs.YtknnhnefbbjcdaaDoor
open Go.RowKit
set_option linter.unusedVariables false
set_option linter.unusedSimpArgs false
attribute [local go_sem] ite_max ite_min vite_max vite_min ext_cell ext_frozen

structure SM where
 ta : Option Addr
 va : Option Addr
 ca : Option Addr
 la : Option Addr
 fa : Option Addr
 ba : Option Addr
 tk : Nat
 vk : Nat
 ck : Nat
 lk : Nat
 fk : Nat
 bk : Nat
def ExC (x : Ex) (A : Option Addr) (k : Nat) : List Value := [.int .i64 x.op, .int .i64 x.n, .string x.name, .string x.field, .slice A x.sub.length k, .int .i64 x.line]
def StmC (s : Stm) (m : SM) : List Value := [.int .i64 s.op, .string s.name, .int .i64 s.dst.op, .int .i64 s.dst.n, .string s.dst.name, .string s.dst.field, .slice m.ta s.dst.sub.length m.tk, .int .i64 s.dst.line,
 .int .i64 s.src.op, .int .i64 s.src.n, .string s.src.name, .string s.src.field, .slice m.va s.src.sub.length m.vk, .int .i64 s.src.line, .slice m.ca s.conds.length m.ck, .slice m.la s.labels.length m.lk, .slice m.fa s.fields.length m.fk, .slice m.ba s.blocks.length m.bk, .int .i64 s.line]

structure SV (w : World) (b o : Nat) (s : Stm) (m : SM) : Prop where
 lt : b < w.heap.size
 cell : ∀ j u, (StmC s m)[j]? = some u → w.cell? ⟨b, o + j, none⟩ = some u
 dst : ExAt w s.dst (ExC s.dst m.ta m.tk)
 src : ExAt w s.src (ExC s.src m.va m.vk)
 conds : RowE w m.ca s.conds m.ck
 labels : RowL w m.la s.labels m.lk
 fields : RowS w m.fa s.fields m.fk
 blocks : RowB w m.ba s.blocks m.bk
 op : I64 s.op
 line : I64 s.line
theorem SV.below {w w' : World} {b o : Nat} {s : Stm} {m : SM} (h : SV w b o s m) (hb : Below w.heap.size w w') : SV w' b o s m :=
 ⟨Nat.lt_of_lt_of_le h.lt hb.size, fun j u hu => (hb.cell (p := ⟨b, o + j, none⟩) h.lt).trans (h.cell j u hu), h.dst.keep hb, h.src.keep hb, h.conds.below hb, h.labels.below hb, h.fields.below hb, h.blocks.below hb, h.op, h.line⟩
theorem StmAt.form19 {w : World} {s : Stm} {cs : List Value} (h : StmAt w s cs) : ∃ m, cs = StmC s m ∧ ExAt w s.dst (ExC s.dst m.ta m.tk) ∧ ExAt w s.src (ExC s.src m.va m.vk) ∧ RowE w m.ca s.conds m.ck ∧ RowL w m.la s.labels m.lk ∧ RowS w m.fa s.fields m.fk ∧ RowB w m.ba s.blocks m.bk ∧ I64 s.op ∧ I64 s.line := by
 obtain ⟨tc, vc, Ac, Al, Af, Ab, kc, kl, kf, kb, rfl, hto, hval, h1, h2, h3, h4, h5, h6⟩ := h.form
 obtain ⟨ta, tk, ht, -⟩ := hto.form
 obtain ⟨va, vk, hv, -⟩ := hval.form
 subst ht hv
 exact ⟨⟨ta, va, Ac, Al, Af, Ab, tk, vk, kc, kl, kf, kb⟩, rfl, hto, hval, h1, h2, h3, h4, h5, h6⟩
theorem SV.stm {w : World} {b o : Nat} {s : Stm} {m : SM} (h : SV w b o s m) : StmAt w s (StmC s m) := by
 have := StmAt.of (name := s.name) h.op h.line h.dst h.src h.conds h.labels h.fields h.blocks
 cases s
 exact this
theorem RowT.at {w : World} {A : Option Addr} {xs : List Stm} {cap : Nat} (h : RowT w A xs cap) {i : Nat} (hi : i < xs.length) : ∃ b off s m, A = some ⟨b, off, none⟩ ∧ b < w.heap.size ∧ xs[i]? = some s ∧ SV w b (off + i * 19) s m := by
 obtain ⟨b, off, s, cs, hA, hb, hs, hat, hcell⟩ := RowOf.at h hi
 obtain ⟨m, rfl, h1, h2, h3, h4, h5, h6, h7, h8⟩ := hat.form19
 refine ⟨b, off, s, m, hA, hb, hs, hb, fun j u hu => ?_, h1, h2, h3, h4, h5, h6, h7, h8⟩
 have hj : j < 19 := (List.getElem?_eq_some_iff.1 hu).1
 rw [hcell j hj, hu]
theorem SV.copy {w W : World} {b o H : Nat} {s : Stm} {m : SM} {T : TypeId} (h : SV w b o s m) (hb : Below w.heap.size w W) (hH : W.heap[H]? = some (.cells (StmC s m).toArray T)) : SV W H 0 s m := by
 have h' := h.below hb
 refine ⟨(Array.getElem?_eq_some_iff.1 hH).1, fun j u hu => ?_, h'.dst, h'.src, h'.conds, h'.labels, h'.fields, h'.blocks, h.op, h.line⟩
 rw [Nat.zero_add]
 exact heap_cell j _ hH (by rw [List.getElem?_toArray]; exact hu)
theorem SV.at0 {w : World} {H : Nat} {s : Stm} {m : SM} (h : SV w H 0 s m) (j : Nat) (u : Value) (hu : (StmC s m)[j]? = some u) : w.cell? ⟨H, j, none⟩ = some u := by
 have := h.cell j u hu
 rwa [Nat.zero_add] at this

theorem stm_sizes {xs : List Stm} {i : Nat} {s : Stm} (h : xs[i]? = some s) : SizeOf.sizeOf s < SizeOf.sizeOf xs := List.sizeOf_lt_of_mem (List.mem_of_getElem? h)
theorem block_lt {xs : List Stm} {i k : Nat} {s : Stm} {bl : List Stm} (h : xs[i]? = some s) (hk : s.blocks[k]? = some bl) : SizeOf.sizeOf bl < SizeOf.sizeOf xs := by
 have h1 := stm_sizes h
 have h2 := List.sizeOf_lt_of_mem (List.mem_of_getElem? hk)
 have h3 : SizeOf.sizeOf s.blocks < SizeOf.sizeOf s := by
  cases s
  simp [Stm.blocks]
  omega
 omega

end Go.Proofs.YtknnhnefbbjcdaaDoor
