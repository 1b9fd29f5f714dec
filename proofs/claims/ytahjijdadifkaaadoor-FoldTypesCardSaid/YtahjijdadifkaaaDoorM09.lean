/- Merged: Layer 20: a pin of a block by its name. Layer 21: a constant, of any expression. Layer 21: the expression of a truth, or of a number that is not negative, with its cells. Trees in part of the memory: only these blocks; a row of one's own as a row of trees. Layer 21, plain: an expression folded; folded again it is the same. Contracts of layer 1: sums, differences, quotients, rests, sizes and signs, clamped numbers. -/
import Derived.Test.YtahjijdadifkaaaDoorM08
import Derived.Test.YtahjijdadifkaaaDoorM07
import Derived.Test.YtahjijdadifkaaaDoorM00
set_option linter.unusedVariables false
set_option linter.unusedSimpArgs false
set_option maxHeartbeats 4000000
namespace Go.Proofs.YtahjijdadifkaaaDoor
open Go.RowKit
attribute [local go_sem] ite_max ite_min vite_max vite_min ext_cell ext_frozen extS_cell extS_frozen

def kpV (kind : Int) : Option Nat → Value
 | some k => .tuple #[.agg #[.string (kpNm kind k), .int .i64 (kpTy kind k), .bool (kpIn kind k)], .bool true]
 | none => .tuple #[.agg #[.string ⟨#[]⟩, .int .i64 0, .bool false], .bool false]
theorem cf_kpin1 (args : Array Value) (w : World) : Sem.run Tryd.prog (callFunc 74 args) w = .ok (.enter 74 args) w := by
 go_simp

theorem kpin1_any (s : ByteArray) (t : Int) (i : Bool) (nm : ByteArray) (c : Nat) (w : World) (hc : w.cell? ⟨c, 0, none⟩ = some (.string nm)) (hl : c < w.heap.size) :
  Calls Tryd.prog 74 #[.agg #[.string s, .int .i64 t, .bool i], .pointer (some ⟨c, 0, none⟩)] w fun e w' => e = .returned (.bool ((s.toList == nm.toList) && !nm.toList.isEmpty)) ∧ Below w.heap.size w w' := by
 cases hq : (s.toList == nm.toList)
 ·go_enter Tryd.func74, Tryd.ntmps74
  go_wp2
  go_ret
  exact ⟨rfl, by exact belowBy⟩
 ·cases hq0 : (!nm.toList.isEmpty)
  ·go_enter Tryd.func74, Tryd.ntmps74
   go_wp2
   go_ret
   exact ⟨rfl, by exact belowBy⟩
  ·go_enter Tryd.func74, Tryd.ntmps74
   go_wp2
   go_ret
   exact ⟨rfl, by exact belowBy⟩

structure PinZ (W : World) (E : Nat) : Prop where
 lt : E < W.heap.size
 c0 : W.cell? ⟨E, 0, none⟩ = some (.string ⟨#[]⟩)
 c1 : W.cell? ⟨E, 1, none⟩ = some (.int .i64 0)
 c2 : W.cell? ⟨E, 2, none⟩ = some (.bool false)
 fr : ∀ o, W.frozen? ⟨E, o, none⟩ = false
theorem PinZ.below {W W' : World} {E : Nat} (h : PinZ W E) (hb : Below W.heap.size W W') : PinZ W' E :=
 ⟨Nat.lt_of_lt_of_le h.lt hb.size, (hb.cell (p := ⟨E, 0, none⟩) h.lt).trans h.c0, (hb.cell (p := ⟨E, 1, none⟩) h.lt).trans h.c1, (hb.cell (p := ⟨E, 2, none⟩) h.lt).trans h.c2, fun o => (hb.frozen (p := ⟨E, o, none⟩) h.lt).trans (h.fr o)⟩
theorem pinZ_new {w : World} {T : TypeId} : PinZ (w.alloc (.cells #[.string ⟨#[]⟩, .int .i64 0, .bool false] T)) w.heap.size := by
 refine ⟨by simp, by go_simp, by go_simp, by go_simp, fun o => by go_simp⟩

set_option maxRecDepth 100000 in
theorem kpin_any (v : VarS) (nm : ByteArray) (w : World) (ht : Blanks w) : Calls Tryd.prog 64 #[.agg v.cells.toArray, .string nm] w fun e w' => e = .returned (kpV v.type (kpF v.type nm)) ∧ Below w.heap.size w w' := by
 have HT := Lib.hid ht
 obtain ⟨ty, hty⟩ : ∃ x, v.type = x := ⟨_, rfl⟩
 obtain ⟨n, hn⟩ : ∃ n, countOf ty = n := ⟨_, rfl⟩
 obtain ⟨r, hr⟩ : ∃ r, kpF ty nm = r := ⟨_, rfl⟩
 have HN := Lib.hid hn
 have HR := Lib.hid hr
 have hn64 : n ≤ 64 := by rw [← hn]; exact count_few ty
 rw [hty, hr]
 clear ht hn hr
 go_enter Tryd.func64, Tryd.ntmps64
 go_upto_region 1 with (refine wpList_boxTo rfl 47 _ rfl _ rfl _ rfl v.cells.toArray rfl ?_)
 refine wp_name fun W hW => ?_
 obtain ⟨B, hB⟩ : ∃ B, B = w.heap.size := ⟨_, rfl⟩
 have hB1 : B + 1 = w.heap.size + 1 := by omega
 have hB2 : B + 2 = w.heap.size + 1 + 1 := by omega
 have hh : W.heap[B]? = some (.cells v.cells.toArray 47) := by
  rw [hW.out, hB]
  exact (heap_alloc_old _ _ (by simp; omega)).trans ((heap_alloc_old _ _ (by simp)).trans (heap_alloc_new _ _))
 have v1 : W.cell? ⟨B, 1, none⟩ = some (.int .i64 ty) := by rw [← hty]; exact heap_cell 1 _ hh rfl
 have n0 : W.cell? ⟨B + 1, 0, none⟩ = some (.string nm) := by rw [hW.out, hB1]; go_simp
 have hZ : PinZ W (B + 2) := by
  rw [hW.out, hB2]
  have := pinZ_new (w := (w.alloc (.cells v.cells.toArray 47)).alloc (.cells #[.string nm] 9)) (T := 106)
  rw [World.size_alloc, World.size_alloc] at this
  exact this
 have hbel : Below w.heap.size w W := by rw [hW.out]; exact belowBy
 have HTW := Lib.hid (HT.out.on hbel)
 have HB := Lib.hid hbel
 have HZ := Lib.hid hZ
 have lB : B + 1 < W.heap.size := by have := hZ.lt; omega
 have lB0 : B < W.heap.size := by omega
 have hwB : w.heap.size ≤ B := by omega
 rw [show w.heap.size + 1 + 1 = B + 2 by omega, show w.heap.size + 1 = B + 1 by omega, ← hB]
 have HN0 := Lib.hid n0
 clear hW hh hty hbel HT hZ hB hB1 hB2 n0
 go_wp2_with fail
 refine (pins_rowKp ty _ HTW.out).mono ?_
 rintro e w1 ⟨⟨A, cp, rfl, hc1, hc2, hrow⟩, hb1⟩
 have HROW := Lib.hid hrow
 have HB1 := Lib.hid (HB.out.trans (hb1.mono HB.out.size))
 have HZ1 := Lib.hid (HZ.out.below hb1)
 have hn1 : w1.cell? ⟨B + 1, 0, none⟩ = some (.string nm) := (hb1.cell (p := ⟨B + 1, 0, none⟩) lB).trans HN0.out
 have lB1 : B + 1 < w1.heap.size := Nat.lt_of_lt_of_le lB hb1.size
 have HIX : Hid (Calls Tryd.prog 73 #[.slice A n cp, .func (.func 74) #[] #[.pointer (some ⟨B + 1, 0, none⟩)]] w1 fun e w' => e = .returned (.int .i64 (ixO r)) ∧ Below w1.heap.size w1 w') := Lib.hid (by
  rw [← HN.out, ← HR.out]
  exact kix_pin _ _ (kpHit ty nm) ty A cp w1 ⟨hc1, hc2⟩ HROW.out cf_kpin1 (fun k w' hb => kpin1_any _ _ _ nm (B + 1) w' ((hb.cell (p := ⟨B + 1, 0, none⟩) lB1).trans hn1) (Nat.lt_of_lt_of_le lB1 hb.size)))
 rw [HN.out] at hc1 ⊢
 have hcl := hc2
 clear hrow hb1 v1 lB lB0 HN0 hn1 lB1 HZ HB HTW hc2
 go_wp2_with fail
 refine HIX.out.mono ?_
 rintro e w2 ⟨rfl, hb2⟩
 have HB2 := Lib.hid (HB1.out.trans (hb2.mono HB1.out.size))
 have HZ2 := Lib.hid (HZ1.out.below hb2)
 have HROW2 := Lib.hid (HROW.out.below hb2)
 clear hb2 HIX HZ1 HROW HB1
 obtain ⟨lz, z0, z1, z2, fz⟩ := HZ2.out
 have f0 := fz 0
 have f1 := fz 1
 have f2 := fz 2
 have hz := HB2.out.size
 have HBW := HB2.out
 clear fz
 cases r with
 | none =>
  simp only [ixO]
  go_wp2
  refine bodyPost_ret (v := kpV ty none) (by simp [kpV, results, Tryd.results64, go_sem, z0, z1, z2, f0, f1, f2, lz]) rfl ⟨rfl, ?_⟩
  exact belowBy
 | some k =>
  have hk : k < n := by rw [← HN.out]; exact kpF_lt HR.out
  obtain ⟨b, rfl, hbl, c0, c1, c2⟩ := HROW2.out k (by rw [HN.out]; exact hk)
  have hk0 : (0 : Int) ≤ (k : Int) ∧ (k : Int) < (n : Int) := by omega
  have hi : ¬ (k : Int) < 0 := by omega
  obtain ⟨s0, hs0⟩ : ∃ x, kpNm ty k = x := ⟨_, rfl⟩
  obtain ⟨s1, hs1⟩ : ∃ x, kpTy ty k = x := ⟨_, rfl⟩
  obtain ⟨s2, hs2⟩ : ∃ x, kpIn ty k = x := ⟨_, rfl⟩
  have hV : kpV ty (some k) = .tuple #[.agg #[.string s0, .int .i64 s1, .bool s2], .bool true] := by rw [← hs0, ← hs1, ← hs2]; rfl
  have HV := Lib.hid hV
  rw [hs0] at c0
  rw [hs1] at c1
  rw [hs2] at c2
  clear hs0 hs1 hs2 hV
  simp only [ixO]
  go_wp2
  refine bodyPost_ret (v := .tuple #[.agg #[.string s0, .int .i64 s1, .bool s2], .bool true]) (by simp [results, Tryd.results64, go_sem, z0, z1, z2, f0, f1, f2, lz]) rfl ⟨by rw [HV.out], ?_⟩
  exact belowBy

end Go.Proofs.YtahjijdadifkaaaDoor

namespace Go.Proofs.YtahjijdadifkaaaDoor
open Go.RowKit
attribute [local go_sem] ite_max ite_min vite_max vite_min ext_cell ext_frozen

def constV (x : Ex) : Int × Bool × Bool :=
 if x.op = 1 then (x.n, false, true) else if x.op = 2 then (x.n, true, true)
 else if x.op = 6 ∧ x.sub.length = 1 ∧ (x.sub[0]?.map Ex.op) = some 1 then (IntKind.i64.wrap (-((x.sub[0]?.map Ex.n).getD 0)), false, true) else (0, false, false)
def constT (x : Ex) : Value := .tuple #[.int .i64 (constV x).1, .bool (constV x).2.1, .bool (constV x).2.2]

set_option maxRecDepth 100000 in
theorem constant_any (x : Ex) (A : Option Addr) (k : Nat) (w : World) (h : ExAt w x (ExC x A k)) : Calls Tryd.prog 22 #[.agg (ExC x A k).toArray] w fun e w' => e = .returned (constT x) ∧ Below w.heap.size w w' := by
 have hrow : RowE w A x.sub k := by
  obtain ⟨A', k', he, hr, -⟩ := h.form
  simp only [ExC, List.cons.injEq, Value.slice.injEq, and_true, true_and] at he
  obtain ⟨rfl, rfl⟩ := he
  exact hr
 show Calls Tryd.prog 22 #[.agg #[.int .i64 x.op, .int .i64 x.n, .string x.name, .string x.field, .slice A x.sub.length k, .int .i64 x.line]] w _
 obtain ⟨op, hop⟩ : ∃ op, x.op = op := ⟨_, rfl⟩
 have HR := Lib.hid hrow
 clear h hrow
 by_cases h1 : op = 1
 ·have hv : constT x = .tuple #[.int .i64 x.n, .bool false, .bool true] := by
   unfold constT constV
   rw [if_pos (by rw [hop, h1])]
  rw [hv, hop]
  clear hv hop
  subst h1
  go_enter Tryd.func22, Tryd.ntmps22
  go_wp2
  refine bodyPost_ret (v := .tuple #[.int .i64 x.n, .bool false, .bool true]) ?_ rfl ⟨rfl, by exact belowBy⟩
  simp [results, Tryd.results22, go_sem]
 by_cases h2 : op = 2
 ·have hv : constT x = .tuple #[.int .i64 x.n, .bool true, .bool true] := by
   unfold constT constV
   rw [if_neg (by rw [hop]; omega), if_pos (by rw [hop, h2])]
  rw [hv, hop]
  clear hv hop
  subst h2
  go_enter Tryd.func22, Tryd.ntmps22
  go_wp2
  refine bodyPost_ret (v := .tuple #[.int .i64 x.n, .bool true, .bool true]) ?_ rfl ⟨rfl, by exact belowBy⟩
  simp [results, Tryd.results22, go_sem]
 by_cases h6 : op = 6
 ·by_cases hl : x.sub.length = 1
  ·obtain ⟨b, off, y, As, ks, hA, hb, hy, hat, hsub, hrng⟩ := RowE.at HR.out (i := 0) (by omega)
   have c0 : w.cell? ⟨b, off, none⟩ = some (.int .i64 y.op) := hrng 0 _ rfl
   have c1 : w.cell? ⟨b, off + 1, none⟩ = some (.int .i64 y.n) := hrng 1 _ rfl
   by_cases hy1 : y.op = 1
   ·have hv : constT x = .tuple #[.int .i64 (IntKind.i64.wrap (-y.n)), .bool false, .bool true] := by
     unfold constT constV
     rw [if_neg (by rw [hop]; omega), if_neg (by rw [hop]; omega), if_pos ⟨by rw [hop, h6], hl, by rw [hy]; simp [hy1]⟩, hy]
     rfl
    rw [hv, hop, hl, hA]
    clear hv hop hrng hsub hat hy hl
    subst h6
    subst hA
    go_enter Tryd.func22, Tryd.ntmps22
    go_wp2
    refine bodyPost_ret (v := .tuple #[.int .i64 (IntKind.i64.wrap (-y.n)), .bool false, .bool true]) ?_ rfl ⟨rfl, by exact belowBy⟩
    simp [results, Tryd.results22, go_sem]
    simp only [RowKit.wrap64, IntKind.wrap_i64]
   ·have hv : constT x = .tuple #[.int .i64 0, .bool false, .bool false] := by
     unfold constT constV
     rw [if_neg (by rw [hop]; omega), if_neg (by rw [hop]; omega), if_neg (by rw [hy]; intro h; exact hy1 (by simpa using h.2.2))]
    rw [hv, hop, hl, hA]
    clear hv hop hrng hsub hat hy hl
    subst h6
    subst hA
    go_enter Tryd.func22, Tryd.ntmps22
    go_wp2
    refine bodyPost_ret (v := .tuple #[.int .i64 0, .bool false, .bool false]) ?_ rfl ⟨rfl, by exact belowBy⟩
    simp [results, Tryd.results22, go_sem]
  ·have hv : constT x = .tuple #[.int .i64 0, .bool false, .bool false] := by
    unfold constT constV
    rw [if_neg (by rw [hop]; omega), if_neg (by rw [hop]; omega), if_neg (fun h => hl h.2.1)]
   have hlI : ¬ (x.sub.length : Int) = 1 := by omega
   rw [hv, hop]
   clear hv hop
   subst h6
   go_enter Tryd.func22, Tryd.ntmps22
   go_wp2
   refine bodyPost_ret (v := .tuple #[.int .i64 0, .bool false, .bool false]) ?_ rfl ⟨rfl, by exact belowBy⟩
   simp [results, Tryd.results22, go_sem]
 have hv : constT x = .tuple #[.int .i64 0, .bool false, .bool false] := by
  unfold constT constV
  rw [if_neg (by rw [hop]; omega), if_neg (by rw [hop]; omega), if_neg (fun h => h6 (by rw [← hop]; exact h.1))]
 rw [hv, hop]
 clear hv hop
 go_enter Tryd.func22, Tryd.ntmps22
 go_wp2
 refine bodyPost_ret (v := .tuple #[.int .i64 0, .bool false, .bool false]) ?_ rfl ⟨rfl, by exact belowBy⟩
 simp [results, Tryd.results22, go_sem]


set_option maxRecDepth 100000 in
theorem made_num (n ln : Int) (w : World) (hn : 0 ≤ n) :
  Calls Tryd.prog 24 #[.int .i64 n, .bool false, .int .i64 ln] w fun e w' => e = .returned (.agg #[.int .i64 1, .int .i64 n, .string ⟨#[]⟩, .string ⟨#[]⟩, .slice none 0 0, .int .i64 ln]) ∧ Below w.heap.size w w' := by
 go_enter Tryd.func24, Tryd.ntmps24
 go_wp2
 exact bodyPost_ret (v := .agg #[.int .i64 1, .int .i64 n, .string ⟨#[]⟩, .string ⟨#[]⟩, .slice none 0 0, .int .i64 ln]) (by simp [results, Tryd.results24, go_sem]) rfl ⟨rfl, by exact belowBy⟩

set_option maxRecDepth 100000 in
theorem made_truth (n ln : Int) (w : World) :
  Calls Tryd.prog 24 #[.int .i64 n, .bool true, .int .i64 ln] w fun e w' => e = .returned (.agg #[.int .i64 2, .int .i64 n, .string ⟨#[]⟩, .string ⟨#[]⟩, .slice none 0 0, .int .i64 ln]) ∧ Below w.heap.size w w' := by
 go_enter Tryd.func24, Tryd.ntmps24
 go_wp2
 exact bodyPost_ret (v := .agg #[.int .i64 2, .int .i64 n, .string ⟨#[]⟩, .string ⟨#[]⟩, .slice none 0 0, .int .i64 ln]) (by simp [results, Tryd.results24, go_sem]) rfl ⟨rfl, by exact belowBy⟩

set_option maxRecDepth 100000 in
theorem made_neg (n ln : Int) (w : World) (hn : n < 0) :
  Calls Tryd.prog 24 #[.int .i64 n, .bool false, .int .i64 ln] w fun e w' => ∃ q : Nat, e = .returned (.agg #[.int .i64 6, .int .i64 0, .string ⟨#[]⟩, .string ⟨#[]⟩, .slice (some ⟨q, 0, none⟩) 1 1, .int .i64 ln]) ∧ w.heap.size ≤ q ∧ q < w'.heap.size ∧ (∀ j u, (#[Value.int .i64 1, .int .i64 (IntKind.i64.wrap (-n)), .string ⟨#[]⟩, .string ⟨#[]⟩, .slice none 0 0, .int .i64 ln] : Array Value)[j]? = some u → w'.cell? ⟨q, j, none⟩ = some u) ∧ Below w.heap.size w w' := by
 go_enter Tryd.func24, Tryd.ntmps24
 go_wp2
 refine bodyPost_ret (v := .agg #[.int .i64 6, .int .i64 0, .string ⟨#[]⟩, .string ⟨#[]⟩, .slice (some ⟨w.heap.size + 1, 0, none⟩) 1 1, .int .i64 ln]) (by simp [results, Tryd.results24, go_sem]) rfl ⟨w.heap.size + 1, rfl, by omega, by simp, ?_, by exact belowBy⟩
 intro j u hu
 have h1 := heap_alloc_new (w.alloc (Obj.cells #[Value.int .i64 6, .int .i64 0, .string ⟨#[]⟩, .string ⟨#[]⟩, .slice (some ⟨w.heap.size + 1, 0, none⟩) 1 1, .int .i64 ln] 28)) (Obj.cells #[Value.int .i64 1, .int .i64 (IntKind.i64.wrap (-n)), .string ⟨#[]⟩, .string ⟨#[]⟩, .slice none 0 0, .int .i64 ln] 28)
 rw [World.size_alloc] at h1
 have h2 := heap_cell j u h1 hu
 simpa only [RowKit.wrap64, IntKind.wrap_i64] using h2

end Go.Proofs.YtahjijdadifkaaaDoor

namespace Go.Proofs.YtahjijdadifkaaaDoor
open Go.RowKit

def only (w : World) (p : Nat → Bool) : World := { w with heap := w.heap.mapIdx fun i o => if p i = true then o else .cells #[] 0 }
theorem only_size (w : World) (p : Nat → Bool) : (only w p).heap.size = w.heap.size := by simp [only]
theorem only_cell {w : World} {p : Nat → Bool} {b o : Nat} {v : Value} (h : (only w p).cell? ⟨b, o, none⟩ = some v) : p b = true ∧ w.cell? ⟨b, o, none⟩ = some v := by
 unfold World.cell? only at h
 simp only [Array.getElem?_mapIdx] at h
 cases hb : w.heap[b]? with
 | none => rw [hb] at h; simp at h
 | some ob =>
  rw [hb] at h
  cases hp : p b with
  | false => rw [hp] at h; simp at h
  | true =>
   rw [hp] at h
   refine ⟨rfl, ?_⟩
   unfold World.cell?
   rw [hb]
   simpa using h
theorem cell_only {w : World} {p : Nat → Bool} {b o : Nat} (hp : p b = true) : (only w p).cell? ⟨b, o, none⟩ = w.cell? ⟨b, o, none⟩ := by
 unfold World.cell? only
 simp only [Array.getElem?_mapIdx]
 cases hb : w.heap[b]? with
 | none => simp
 | some ob => simp [hp]

def Moves (w w' : World) : Prop := w.heap.size ≤ w'.heap.size ∧ ∀ b o v, w.cell? ⟨b, o, none⟩ = some v → w'.cell? ⟨b, o, none⟩ = some v
theorem Moves.refl (w : World) : Moves w w := ⟨Nat.le_refl _, fun _ _ _ h => h⟩
theorem Moves.trans {a b c : World} (h1 : Moves a b) (h2 : Moves b c) : Moves a c := ⟨Nat.le_trans h1.1 h2.1, fun x o v h => h2.2 x o v (h1.2 x o v h)⟩
theorem cell_lt {w : World} {b o : Nat} {v : Value} (h : w.cell? ⟨b, o, none⟩ = some v) : b < w.heap.size := World.block_lt_of_cell? w ⟨b, o, none⟩ h
theorem Moves.of_below {w w' : World} (h : Below w.heap.size w w') : Moves w w' := ⟨h.size, fun b o v hv => (h.cell (p := ⟨b, o, none⟩) (cell_lt hv)).trans hv⟩
theorem Moves.only (w : World) (p : Nat → Bool) : Moves (only w p) w := ⟨by rw [only_size]; exact Nat.le_refl _, fun b o v h => (only_cell h).2⟩
theorem Moves.onlyW {w w' : World} {p q : Nat → Bool} (hs : w.heap.size ≤ w'.heap.size) (h : ∀ b, b < w.heap.size → p b = true → q b = true ∧ w'.heap[b]? = w.heap[b]?) : Moves (Go.Proofs.YtahjijdadifkaaaDoor.only w p) (Go.Proofs.YtahjijdadifkaaaDoor.only w' q) :=
 ⟨by rw [only_size, only_size]; exact hs, fun b o v hv => by
  obtain ⟨hp, hc⟩ := only_cell hv
  obtain ⟨hq, hb⟩ := h b (cell_lt hc) hp
  rw [cell_only hq, World.cell?_of_block (a := ⟨b, o, none⟩) hb]
  exact hc⟩
theorem Moves.onlyB {w w' : World} {p q : Nat → Bool} (hb : Below w.heap.size w w') (h : ∀ b, b < w.heap.size → p b = true → q b = true) : Moves (Go.Proofs.YtahjijdadifkaaaDoor.only w p) (Go.Proofs.YtahjijdadifkaaaDoor.only w' q) :=
 .onlyW hb.size fun b hl hp => ⟨h b hl hp, hb.block b hl⟩

theorem ExAt.len {w : World} {x : Ex} {cs : List Value} (h : ExAt w x cs) : cs.length = 6 := by
 obtain ⟨A, k, rfl, -⟩ := h.form
 rfl
theorem ExAt.move {w w' : World} (hm : Moves w w') {x : Ex} {cs : List Value} (h : ExAt w x cs) : ExAt w' x cs := by
 induction h with
 | mk op n line name field sub A cap f ho hn hi hl hc hbb hA hr ih =>
  refine .mk op n line name field sub A cap f ho hn hi hl hc hbb (fun hne => ?_) ih
  obtain ⟨b, off, ha, hbl, hcell⟩ := hA hne
  refine ⟨b, off, ha, Nat.lt_of_lt_of_le hbl hm.1, fun i hi j hj => ?_⟩
  have hlen := (hr i _ (List.getElem?_eq_getElem hi)).len
  have := hcell i hi j hj
  rw [List.getElem?_eq_getElem (by omega)] at this ⊢
  exact hm.2 _ _ _ this
theorem RowOf.move {α : Type} {w w' : World} {size bytes : Nat} {Q Q' : α → List Value → Prop} {A : Option Addr} {xs : List α} {cap : Nat} (h : RowOf w size bytes Q A xs cap) (hm : Moves w w') (hQ : ∀ x cs, x ∈ xs → Q x cs → cs.length = size ∧ Q' x cs) : RowOf w' size bytes Q' A xs cap := by
 obtain ⟨h1, h2, h3, f, h4, h5⟩ := h
 refine ⟨h1, h2, h3, f, fun hn => ?_, fun i x hx => (hQ x _ (List.mem_of_getElem? hx) (h5 i x hx)).2⟩
 obtain ⟨b, off, ha, hbl, hcell⟩ := h4 hn
 refine ⟨b, off, ha, Nat.lt_of_lt_of_le hbl hm.1, fun i hi j hj => ?_⟩
 have hlen := (hQ _ _ (List.getElem_mem hi) (h5 i _ (List.getElem?_eq_getElem hi))).1
 have := hcell i hi j hj
 rw [List.getElem?_eq_getElem (by omega)] at this ⊢
 exact hm.2 _ _ _ this
theorem RowE.move {w w' : World} {A : Option Addr} {xs : List Ex} {cap : Nat} (h : RowE w A xs cap) (hm : Moves w w') : RowE w' A xs cap := RowOf.move h hm fun _ _ _ h => ⟨h.len, h.move hm⟩

def CellsOf {α : Type} (Q : α → List Value → Prop) (size : Nat) (ys : List α) (cs : List Value) : Prop :=
 cs.length = ys.length * size ∧ ∀ i y, ys[i]? = some y → Q y ((cs.drop (i * size)).take size)
section
variable {α : Type} {Q Q' : α → List Value → Prop} {size : Nat} {ys : List α} {cs : List Value}
theorem CellsOf.nil : CellsOf Q size [] [] := ⟨by simp, fun i y h => by simp at h⟩
theorem CellsOf.snoc {y : α} {c : List Value} (h : CellsOf Q size ys cs) (hy : Q y c) (hc : c.length = size) : CellsOf Q size (ys ++ [y]) (cs ++ c) := by
 obtain ⟨hl, hq⟩ := h
 refine ⟨by simp [hl, hc, Nat.add_mul], fun i z hz => ?_⟩
 rcases Nat.lt_or_ge i ys.length with hi | hi
 ·rw [List.getElem?_append_left hi] at hz
  have h1 : i * size + size ≤ cs.length := by
   rw [hl]
   have := Nat.mul_le_mul_right size (show i + 1 ≤ ys.length from hi)
   rw [Nat.add_mul] at this
   omega
  rw [List.drop_append_of_le_length (by omega), List.take_append_of_le_length (by rw [List.length_drop]; omega)]
  exact hq i z hz
 ·rw [List.getElem?_append_right hi] at hz
  have h0 : i - ys.length = 0 := by
   have := (List.getElem?_eq_some_iff.1 hz).1
   simp at this
   omega
  rw [h0] at hz
  simp at hz
  subst hz
  have hi' : i = ys.length := by omega
  rw [hi', ← hl, List.drop_left, ← hc, List.take_length]
  exact hy
theorem CellsOf.mono (h : CellsOf Q size ys cs) (hQ : ∀ y c, Q y c → Q' y c) : CellsOf Q' size ys cs := ⟨h.1, fun i y hy => hQ y _ (h.2 i y hy)⟩
theorem CellsOf.row {w : World} {base bytes n : Nat} {e : TypeId} {v : Value} {p : Nat → Bool} (h : CellsOf Q size ys cs) (ho : w.ownsRow base e size v n cs) (hn : ys.length = n) (hb : n * bytes ≤ 140737488355328) (hp : ∀ b, base ≤ b → p b = true) (h0 : 0 < size) :
  ∃ A cap, v = .slice A ys.length cap ∧ RowOf (only w p) size bytes Q A ys cap := by
 subst hn
 obtain ⟨A, cap, rfl, hnc, hcm, hA⟩ := own_form ho
 unfold maxLen at hcm
 refine ⟨A, cap, rfl, hnc, by omega, hb, fun i => (cs.drop (i * size)).take size, fun hne => ?_, h.2⟩
 obtain ⟨g, cap', hv, hbg, hlt⟩ := ho.form (List.length_pos_iff.2 hne)
 injection hv with hA'
 subst hA'
 refine ⟨g, 0, rfl, by rw [only_size]; exact hlt, fun i hi j hj => ?_⟩
 have hlen := h.1
 have h1 : i * size + size ≤ cs.length := by
  rw [hlen]
  have := Nat.mul_le_mul_right size (show i + 1 ≤ ys.length from hi)
  rw [Nat.add_mul] at this
  omega
 rw [cell_only (hp g hbg), List.getElem?_take, if_pos hj, List.getElem?_drop, List.getElem?_eq_getElem (by omega)]
 have := ho.cells (g := g) rfl (i * size + j) _ (List.getElem?_eq_getElem (by omega))
 have had : (⟨g, 0, none⟩ : Addr).add (i * size + j) = ⟨g, 0 + i * size + j, none⟩ := by
  unfold Addr.add
  split
  ·rename_i h; rw [show 0 + i * size + j = 0 by omega]
  ·simp [Nat.add_assoc]
 rwa [had] at this
end
def frees (H : Nat) (v : Value) : Nat → Bool := fun i => decide (H ≤ i) && decide (some i ≠ v.ownBlock)
def news (H : Nat) : Nat → Bool := fun i => decide (H ≤ i)
def BuiltE (w : World) (base : Nat) (ys : List Ex) (v : Value) : Prop := ∃ cs, w.ownsRow base 28 6 v ys.length cs ∧ CellsOf (ExAt (only w (frees base v))) 6 ys cs
theorem BuiltE.nil (w : World) (base : Nat) : BuiltE w base [] (.slice none 0 0) := ⟨[], World.ownsRow_nil _ _ _ _, .nil⟩
theorem BuiltE.below {w w' : World} {base : Nat} {ys : List Ex} {v : Value} (h : BuiltE w base ys v) (hb : Below w.heap.size w w') : BuiltE w' base ys v := by
 obtain ⟨cs, h1, h2⟩ := h
 exact ⟨cs, owns_below h1 hb, h2.mono fun y c hy => hy.move (.onlyB hb fun b _ h => h)⟩
theorem BuiltE.snoc {w1 w2 : World} {base n g cap : Nat} {ys : List Ex} {y : Ex} {v : Value} {cs c : List Value} (h : CellsOf (ExAt (only w1 (frees base v))) 6 ys cs) (hy : ExAt (only w1 (frees base v)) y c)
  (ho : w2.ownsRow base 28 6 (.slice (some ⟨g, 0, none⟩) n cap) n (cs ++ c)) (hn : n = ys.length + 1) (hg : w1.grownBy w2 v.ownBlock) (hat : v.ownBlock = some g ∨ g = w1.heap.size) : BuiltE w2 base (ys ++ [y]) (.slice (some ⟨g, 0, none⟩) n cap) := by
 have hm : Moves (only w1 (frees base v)) (only w2 (frees base (.slice (some ⟨g, 0, none⟩) n cap))) := .onlyW hg.size fun b hl hp => by
  simp only [frees, Bool.and_eq_true, decide_eq_true_eq] at hp
  refine ⟨?_, hg.block b hl hp.2⟩
  simp only [frees, Bool.and_eq_true, decide_eq_true_eq]
  refine ⟨hp.1, ?_⟩
  rcases hat with h | h
  ·show some b ≠ some g
   intro e
   exact hp.2 (e.trans h.symm)
  ·show some b ≠ some g
   intro e
   injection e with e
   omega
 refine ⟨cs ++ c, ?_, ?_⟩
 ·rw [List.length_append, List.length_singleton, ← hn]
  exact ho
 ·exact (h.mono fun y c hy => hy.move hm).snoc (hy.move hm) hy.len

theorem frees_news {H b : Nat} {v : Value} (h : frees H v b = true) : news H b = true := by
 simp only [frees, Bool.and_eq_true] at h
 exact h.1
theorem BuiltE.row {w : World} {base : Nat} {ys : List Ex} {v : Value} (h : BuiltE w base ys v) (hb : ys.length * 80 ≤ 140737488355328) : ∃ A cap, v = .slice A ys.length cap ∧ RowE (only w (news base)) A ys cap := by
 obtain ⟨cs, h1, h2⟩ := h
 have h3 : CellsOf (ExAt (only w (news base))) 6 ys cs := h2.mono fun y c hy => hy.move (.onlyW (Nat.le_refl _) fun b _ hp => ⟨frees_news hp, rfl⟩)
 exact h3.row h1 rfl hb (fun b hb => by simp only [news, decide_eq_true_eq]; exact hb) (by decide)

end Go.Proofs.YtahjijdadifkaaaDoor

namespace Go.Proofs.YtahjijdadifkaaaDoor

def madeX (n : Int) (is : Bool) (ln : Int) : Ex :=
 if is = true then .mk 2 n ⟨#[]⟩ ⟨#[]⟩ [] ln else if 0 ≤ n then .mk 1 n ⟨#[]⟩ ⟨#[]⟩ [] ln
 else .mk 6 0 ⟨#[]⟩ ⟨#[]⟩ [.mk 1 (IntKind.i64.wrap (-n)) ⟨#[]⟩ ⟨#[]⟩ [] ln] ln
def topX (F : Int → List Int → Bool → Int × Bool × Int) (op n : Int) (nm fd : ByteArray) (subs : List Ex) (ln : Int) : Ex :=
 let x := Ex.mk op n nm fd subs ln
 if op < 6 then x else if (constV x).2.2 = true then x
 else if subs.any (fun s => !(constV s).2.2) = true then x
 else
  let tr := subs.any (fun s => (constV s).2.1)
  if tr = true ∧ subs.any (fun s => !(constV s).2.1) = true then x
  else
   let r := F op (subs.map fun s => (constV s).1) tr
   if r.2.2 ≠ 0 ∨ (r.2.1 = false ∧ r.1 = -9223372036854775808) then x else madeX r.1 r.2.1 ln
theorem topX_or (F : Int → List Int → Bool → Int × Bool × Int) (op n : Int) (nm fd : ByteArray) (subs : List Ex) (ln : Int) : topX F op n nm fd subs ln = .mk op n nm fd subs ln ∨ ∃ k is, topX F op n nm fd subs ln = madeX k is ln := by
 unfold topX
 simp only
 split
 ·exact .inl rfl
 split
 ·exact .inl rfl
 split
 ·exact .inl rfl
 split
 ·exact .inl rfl
 split
 ·exact .inl rfl
 ·exact .inr ⟨_, _, rfl⟩

mutual
def foldE (F : Int → List Int → Bool → Int × Bool × Int) : Ex → Ex
 | .mk op n nm fd sub ln => topX F op n nm fd (foldEs F sub) ln
def foldEs (F : Int → List Int → Bool → Int × Bool × Int) : List Ex → List Ex
 | [] => []
 | x :: l => foldE F x :: foldEs F l
end
theorem foldE_low {F : Int → List Int → Bool → Int × Bool × Int} {op n ln : Int} {nm fd : ByteArray} (h : op < 6) : foldE F (.mk op n nm fd [] ln) = .mk op n nm fd [] ln := by
 simp only [foldE, foldEs, topX]
 rw [if_pos h]
theorem foldE_made {F : Int → List Int → Bool → Int × Bool × Int} (n ln : Int) (is : Bool) : foldE F (madeX n is ln) = madeX n is ln := by
 unfold madeX
 split
 ·exact foldE_low (by decide)
 split
 ·exact foldE_low (by decide)
 ·rw [foldE, foldEs, foldEs, foldE_low (by decide), topX]
  simp only
  rw [if_neg (by decide), if_pos]
  unfold constV
  rw [if_neg (by simp [Ex.op]), if_neg (by simp [Ex.op]), if_pos (by simp [Ex.op, Ex.sub])]
mutual
theorem foldE_again (F : Int → List Int → Bool → Int × Bool × Int) : ∀ x : Ex, foldE F (foldE F x) = foldE F x
 | .mk op n nm fd sub ln => by
  have ih := foldEs_again F sub
  rw [foldE]
  rcases topX_or F op n nm fd (foldEs F sub) ln with h | ⟨k, is, h⟩
  ·rw [h, foldE, ih, h]
  ·rw [h, foldE_made]
theorem foldEs_again (F : Int → List Int → Bool → Int × Bool × Int) : ∀ l : List Ex, foldEs F (foldEs F l) = foldEs F l
 | [] => by rw [foldEs, foldEs]
 | x :: l => by rw [foldEs, foldEs, foldE_again F x, foldEs_again F l]
end

end Go.Proofs.YtahjijdadifkaaaDoor

namespace Go.Proofs.YtahjijdadifkaaaDoor
open Go.RowKit
attribute [local go_sem] ite_max ite_min vite_max vite_min

def fitB (x : Int) : Bool := decide (-9223372036854775808 ≤ x ∧ x ≤ 9223372036854775807)
def fitV (x : Int) : Int := if fitB x = true then x else 0
theorem fitB_yes {x : Int} (h : -9223372036854775808 ≤ x ∧ x ≤ 9223372036854775807) : fitB x = true := decide_eq_true h
theorem fitB_no {x : Int} (h : ¬ (-9223372036854775808 ≤ x ∧ x ≤ 9223372036854775807)) : fitB x = false := decide_eq_false h
theorem fitV_yes {x : Int} (h : -9223372036854775808 ≤ x ∧ x ≤ 9223372036854775807) : fitV x = x := by unfold fitV; rw [fitB_yes h]; rfl
theorem fitV_no {x : Int} (h : ¬ (-9223372036854775808 ≤ x ∧ x ≤ 9223372036854775807)) : fitV x = 0 := by unfold fitV; rw [fitB_no h]; rfl

theorem qadd_any (a b : Int) (w : World) (ha : -9223372036854775808 ≤ a ∧ a ≤ 9223372036854775807) (hb : -9223372036854775808 ≤ b ∧ b ≤ 9223372036854775807) :
  Calls Tryd.prog 47 #[.int .i64 a, .int .i64 b] w fun e w' => e = .returned (.tuple #[.int .i64 (fitV (a + b)), .bool (fitB (a + b))]) ∧ w = w' := by
 by_cases hf : -9223372036854775808 ≤ a + b ∧ a + b ≤ 9223372036854775807
 ·rw [fitV_yes hf, fitB_yes hf]
  cases a0 : decide (0 ≤ a)
  all_goals cases b0 : decide (0 ≤ b)
  all_goals have a1 := a0
  all_goals have b1 := b0
  all_goals simp at a1 b1
  all_goals cases c0 : decide (0 ≤ a + b)
  all_goals have c1 := c0
  all_goals simp at c1
  all_goals first
   | (exfalso; omega)
   | skip
  all_goals
   go_enter Tryd.func47, Tryd.ntmps47
   go_wp2
   go_ret2
   exact ⟨rfl, rfl⟩
 ·rw [fitV_no hf, fitB_no hf]
  obtain ⟨s, hs⟩ : ∃ s, IntKind.i64.wrap (a + b) = s := ⟨_, rfl⟩
  have h2 : (0 ≤ a ∧ 0 ≤ b ∧ s < 0) ∨ (a < 0 ∧ b < 0 ∧ 0 ≤ s) := by
   rw [← hs, IntKind.wrap_i64]
   omega
  clear hf
  rcases h2 with ⟨a0, b0, h3⟩ | ⟨a0, b0, h3⟩
  all_goals
   obtain ⟨A, a1⟩ : ∃ A, decide (0 ≤ a) = A := ⟨_, rfl⟩
   obtain ⟨B, b1⟩ : ∃ B, decide (0 ≤ b) = B := ⟨_, rfl⟩
   obtain ⟨S, s1⟩ : ∃ S, decide (0 ≤ s) = S := ⟨_, rfl⟩
   have a2 := a1
   have b2 := b1
   have s2 := s1
   first
    | rw [decide_eq_true a0] at a2
    | rw [decide_eq_false (by omega)] at a2
   first
    | rw [decide_eq_true b0] at b2
    | rw [decide_eq_false (by omega)] at b2
   first
    | rw [decide_eq_true h3] at s2
    | rw [decide_eq_false (by omega)] at s2
   subst a2
   subst b2
   subst s2
   go_enter Tryd.func47, Tryd.ntmps47
   go_wp2
   go_ret2
   exact ⟨rfl, rfl⟩

theorem qsub_any (a b : Int) (w : World) (ha : -9223372036854775808 ≤ a ∧ a ≤ 9223372036854775807) (hb : -9223372036854775808 ≤ b ∧ b ≤ 9223372036854775807) :
  Calls Tryd.prog 46 #[.int .i64 a, .int .i64 b] w fun e w' => e = .returned (.tuple #[.int .i64 (fitV (a - b)), .bool (fitB (a - b))]) ∧ w = w' := by
 by_cases hf : -9223372036854775808 ≤ a - b ∧ a - b ≤ 9223372036854775807
 ·rw [fitV_yes hf, fitB_yes hf]
  cases a0 : decide (0 ≤ a)
  all_goals cases b0 : decide (0 ≤ b)
  all_goals have a1 := a0
  all_goals have b1 := b0
  all_goals simp at a1 b1
  all_goals cases c0 : decide (0 ≤ a - b)
  all_goals have c1 := c0
  all_goals simp at c1
  all_goals first
   | (exfalso; omega)
   | skip
  all_goals
   go_enter Tryd.func46, Tryd.ntmps46
   go_wp2
   go_ret2
   exact ⟨rfl, rfl⟩
 ·rw [fitV_no hf, fitB_no hf]
  obtain ⟨s, hs⟩ : ∃ s, IntKind.i64.wrap (a - b) = s := ⟨_, rfl⟩
  have h2 : (0 ≤ a ∧ b < 0 ∧ s < 0) ∨ (a < 0 ∧ 0 ≤ b ∧ 0 ≤ s) := by
   rw [← hs, IntKind.wrap_i64]
   omega
  clear hf
  rcases h2 with ⟨a0, b0, h3⟩ | ⟨a0, b0, h3⟩
  all_goals
   obtain ⟨A, a1⟩ : ∃ A, decide (0 ≤ a) = A := ⟨_, rfl⟩
   obtain ⟨B, b1⟩ : ∃ B, decide (0 ≤ b) = B := ⟨_, rfl⟩
   obtain ⟨S, s1⟩ : ∃ S, decide (0 ≤ s) = S := ⟨_, rfl⟩
   have a2 := a1
   have b2 := b1
   have s2 := s1
   first
    | rw [decide_eq_true a0] at a2
    | rw [decide_eq_false (by omega)] at a2
   first
    | rw [decide_eq_true b0] at b2
    | rw [decide_eq_false (by omega)] at b2
   first
    | rw [decide_eq_true h3] at s2
    | rw [decide_eq_false (by omega)] at s2
   subst a2
   subst b2
   subst s2
   go_enter Tryd.func46, Tryd.ntmps46
   go_wp2
   go_ret2
   exact ⟨rfl, rfl⟩

theorem qsize_any (a : Int) (w : World) (ha : -9223372036854775808 ≤ a ∧ a ≤ 9223372036854775807) :
  Calls Tryd.prog 68 #[.int .i64 a] w fun e w' => e = .returned (.int .u64 (max a (-a))) ∧ w = w' := by
 by_cases h : 0 ≤ a
 ·rw [show max a (-a) = a by omega]
  go_enter Tryd.func68, Tryd.ntmps68
  go_wp2
  go_ret
  exact ⟨rfl, rfl⟩
 ·rw [show max a (-a) = -a by omega]
  obtain ⟨t, ht⟩ : ∃ t, IntKind.u64.wrap a = t := ⟨_, rfl⟩
  have h2 : IntKind.u64.wrap (-t) = -a := by
   rw [← ht, IntKind.wrap_u64, IntKind.wrap_u64]
   omega
  go_enter Tryd.func68, Tryd.ntmps68
  go_wp2
  go_ret
  exact ⟨rfl, rfl⟩

end Go.Proofs.YtahjijdadifkaaaDoor
