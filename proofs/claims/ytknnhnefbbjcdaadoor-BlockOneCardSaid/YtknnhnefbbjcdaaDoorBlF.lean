/- Layer 27: what a block tells of its axis. PRINTED by wip/tool/mklook.py -/
import Derived.Test.YtknnhnefbbjcdaaDoorM32
import Derived.Test.YtknnhnefbbjcdaaDoorTreeF
import Derived.Test.YtknnhnefbbjcdaaDoorM02
import Derived.Laws.CopyOwn
namespace Go.Proofs.YtknnhnefbbjcdaaDoor
open Go.RowKit
set_option linter.unusedVariables false
set_option linter.unusedSimpArgs false
attribute [local go_sem] ite_max ite_min vite_max vite_min ext_cell ext_frozen

structure AxS where
 st : Int
 vel : Int
 ins : Bool
 cells : List Value
structure AxS.Ok (x : AxS) : Prop where
 len : x.cells.length = 26
 c0 : x.cells[0]? = some (.int .i64 x.st)
 c11 : x.cells[11]? = some (.int .i64 x.vel)
 c25 : x.cells[25]? = some (.bool x.ins)
 one : x.cells.toArray.all (·.oneCell') = true
def RowX (w : World) (A : Option Addr) (xs : List AxS) (cap : Nat) : Prop := RowOf w 26 232 (fun x c => c = x.cells ∧ x.Ok) A xs cap
theorem RowX.below {w w' : World} {A : Option Addr} {xs : List AxS} {cap : Nat} (h : RowX w A xs cap) (hb : Below w.heap.size w w') : RowX w' A xs cap := RowOf.mono h hb fun _ _ _ h => h
theorem RowX.at {w : World} {A : Option Addr} {xs : List AxS} {cap : Nat} (h : RowX w A xs cap) {i : Nat} (hi : i < xs.length) : ∃ b off x, A = some ⟨b, off, none⟩ ∧ b < w.heap.size ∧ xs[i]? = some x ∧ x.Ok ∧ w.rangeAt b (off + i * 26) x.cells := by
 obtain ⟨b, off, x, cs, hA, hb, hx, ⟨rfl, hok⟩, hcell⟩ := RowOf.at h hi
 refine ⟨b, off, x, hA, hb, hx, hok, fun j u hu => ?_⟩
 have hj : j < 26 := by rw [← hok.len]; exact (List.getElem?_eq_some_iff.1 hu).1
 rw [hcell j hj]
 exact hu
theorem ax_size : (Tryd.prog.info? 111).map (·.size) = some 26 := by kernel_rfl
def axZ : Array Value := #[.int .i64 7, .int .i64 0, .int .i64 0, .int .i64 0, .int .i64 0, .int .i64 0, .int .i64 0, .int .i64 0, .int .i64 0, .int .i64 0, .int .i64 0, .int .i64 0, .slice none 0 0, .int .i64 0, .slice none 0 0, .slice none 0 0, .bool false, .int .i64 0, .int .i64 0, .int .i64 0, .bool false, .int .i64 0, .int .i64 0, .int .i64 0, .int .i64 0, .bool false]
theorem axZ_one : axZ.all (·.oneCell') = true := by simp [axZ, Value.oneCell']
def axP (xs : List AxS) (z : Int) : Option AxS := if 0 ≤ z ∧ z < xs.length then xs[z.toNat]? else none
def b01 (b : Bool) : Int := bif b then 1 else 0
def stP (a : Option AxS) : Int := match a with | some x => x.st | none => 7
def looksP (kind : Int) (off : Nat) (a : Option AxS) (zs : List Int) : List Int :=
 if kind = 20 then (zs.set (off + 2) (b01 (a.isSome && decide (stP a ≠ 0)))).set (off + 3) (b01 (decide (stP a = 7)))
 else if kind = 27 then zs.set (off + outsN 27) (b01 (match a with | some x => decide (zs[off + (outsN 27 + 2)]?.getD 0 ≠ 0) && decide (x.vel = zs[off + 2]?.getD 0) | none => false))
 else if kind = 28 then zs.set (off + outsN 28) (b01 (match a with | some x => decide (zs[off + (outsN 28 + 2)]?.getD 0 ≠ 0) && x.ins | none => false))
 else if kind = 29 then (if zs[off + 4]?.getD 0 = 2 then ((zs.set (off + 2) (b01 (decide (stP a ≠ 7)))).set (off + 3) (b01 (decide (stP a = 7)))).set (off + 4) 1 else zs)
 else zs
structure LookIn (i kind : Int) (g off n c : Nat) (zs : List Int) (xs : List AxS) (A : Option Addr) (cap : Nat) (w0 w : World) : Prop where
 room : n ≤ c ∧ c ≤ 9223372036854775807
 cnt : 0 < n
 len : off + n ≤ zs.length
 axis : px kind nmAxis = some 0
 few : xs.length ≤ 4
 tab : Blanks w0
 axes : RowX w0 A xs cap
 old : Below w0.heap.size w0 w
 low : w0.heap.size ≤ g
 row : Row w g zs
structure AxV (W : World) (D : Nat) (st vel : Int) (ins : Bool) : Prop where
 c0 : W.cell? ⟨D, 0, none⟩ = some (.int .i64 st)
 c11 : W.cell? ⟨D, 11, none⟩ = some (.int .i64 vel)
 c25 : W.cell? ⟨D, 25, none⟩ = some (.bool ins)
 lt : D < W.heap.size
theorem AxV.next {W W' : World} {D g : Nat} {st vel : Int} {ins : Bool} (h : AxV W D st vel ins) (hb : But g W W') (hn : D ≠ g) : AxV W' D st vel ins :=
 ⟨(hb.cell D 0 h.lt hn).trans h.c0, (hb.cell D 11 h.lt hn).trans h.c11, (hb.cell D 25 h.lt hn).trans h.c25, Nat.lt_of_lt_of_le h.lt hb.size⟩
theorem frozen_setRow_other (w : World) (g : Nat) (cs : Array Value) (a : Addr) (h : a.block ≠ g) : (w.setRow g cs).frozen? a = w.frozen? a := by
 simp only [World.frozen?, setRow_other w g a.block cs h]
theorem InS.setRow {w0 w W : World} {B g off n c D : Nat} {i kind : Int} {zs : List Int} (h : InS w0 w W B i kind g off n c zs) (hD : w.heap.size ≤ D) (hg : D ≠ g) (hB : D ≠ B) (h0 : w0.heap.size ≤ D) (cs : Array Value) : InS w0 w (W.setRow D cs) B i kind g off n c zs :=
 ⟨(cell_setRow_other _ _ _ ⟨B, 0, none⟩ (Ne.symm hB)).trans h.c0, (cell_setRow_other _ _ _ ⟨B, 1, none⟩ (Ne.symm hB)).trans h.c1, (cell_setRow_other _ _ _ ⟨B, 2, none⟩ (Ne.symm hB)).trans h.c2, by rw [setRow_size]; exact h.lt, h.ne,
  ⟨by rw [setRow_size]; exact h.row.lt, fun j z hz => (cell_setRow_other _ _ _ ⟨g, j, none⟩ (Ne.symm hg)).trans (h.row.cell j z hz), fun o => (frozen_setRow_other _ _ _ ⟨g, o, none⟩ (Ne.symm hg)).trans (h.row.free o)⟩,
  ⟨by rw [setRow_size]; exact h.but.size, fun b hb hn => (setRow_other _ _ _ _ (by omega)).trans (h.but.blk b hb hn), fun q hq hs => below_setRow (h.but.below q hq hs) (by omega) cs⟩, h.low, below_setRow h.old h0 cs⟩
theorem InS.get {w0 w W : World} {B g off n c : Nat} {i kind : Int} {zs : List Int} (ht : Blanks w0) (h : InS w0 w W B i kind g off n c zs) (hc : n ≤ c ∧ c ≤ 9223372036854775807) (nm : ByteArray) (k : Nat) (z : Int) (hk : px kind nm = some k) (hkn : k < n) (hz : zs[off + k]? = some z) :
  Calls Tryd.prog 19 #[.agg #[.int .i64 i, .int .i64 kind, .slice (some ⟨g, off, none⟩) n c], .string nm] W fun e w' => e = .returned (.int .i64 z) ∧ Below W.heap.size W w' :=
 bget_at i kind g off n c zs nm k z W (ht.on h.old) h.row hk hkn hc hz

set_option maxRecDepth 100000 in
set_option maxHeartbeats 2000000 in
theorem blook20s (i kind : Int) (g off n c : Nat) (zs : List Int) (xs : List AxS) (A : Option Addr) (cap : Nat) (z0 : Int) (x : AxS) (w0 w : World) (h : LookIn i kind g off n c zs xs A cap w0 w) (hz0 : zs[off]? = some z0) (hx : axP xs z0 = some x) (hk : kind = 20) (hn : n = 4) :
  Calls Tryd.prog 27 #[insV i kind (some ⟨g, off, none⟩) n c, .slice A xs.length cap] w fun e w' => e = .returned (.tuple #[]) ∧ But g w w' ∧ Row w' g (looksP kind off (some x) zs) := by
 show Calls Tryd.prog 27 #[.agg #[.int .i64 i, .int .i64 kind, .slice (some ⟨g, off, none⟩) n c], .slice A xs.length cap] w _
 obtain rfl : kind = 20 := hk
 obtain rfl : n = 4 := hn
 have HEQ : Hid (looksP 20 off (some x) zs = (zs.set (off + 2) (b01 (true && decide (x.st ≠ 0)))).set (off + 3) (b01 (decide (x.st = 7)))) := Lib.hid (by unfold looksP; rw [if_pos rfl]; rfl)
 have HH := Lib.hid h
 have hcap := h.room
 have hlen := h.len
 have hn0 := h.cnt
 have hfew := h.few
 have hac1 := h.axes.1
 have hac2 := h.axes.2.1
 have HZ0 := Lib.hid hz0
 obtain ⟨m, hm⟩ : ∃ m, xs.length = m := ⟨_, rfl⟩
 have hz1 : 0 ≤ z0 ∧ z0 < xs.length := by
  unfold axP at hx
  by_cases hq : 0 ≤ z0 ∧ z0 < xs.length
  ·exact hq
  ·rw [if_neg hq] at hx; cases hx
 obtain ⟨k0, rfl⟩ : ∃ k0 : Nat, z0 = k0 := ⟨z0.toNat, by omega⟩
 have HXK : Hid (xs[k0]? = some x) := Lib.hid (by unfold axP at hx; rw [if_pos hz1] at hx; simpa using hx)
 rw [hm] at hz1
 have HOK : Hid (axOk (k0 : Int) (m : Int) = true) := Lib.hid (by unfold axOk; rw [decide_eq_true hz1.1, decide_eq_true hz1.2]; rfl)
 have hax : axN (k0 : Int) = (k0 : Int) := by unfold axN; omega
 have hk04 : (0 : Int) ≤ (k0 : Int) ∧ (k0 : Int) < (m : Int) := hz1
 rw [hm] at hac1 hfew ⊢
 have HM := Lib.hid hm
 clear h hz0 hm hx
 go_enter Tryd.func27, Tryd.ntmps27
 go_upto_region 1 with (fail)
 refine wp_name fun W hW => ?_
 obtain ⟨B, hB⟩ : ∃ B, B = w.heap.size := ⟨_, rfl⟩
 have HSW : Hid (InS w0 w W B i 20 g off 4 c zs) := Lib.hid (by rw [hB]; exact InS.start HH.out.old HH.out.low HH.out.row (by rw [hW.out]; exact heap_alloc_new _ _) (by rw [hW.out]; exact belowBy))
 (try rw [← hB])
 clear hW hB
 obtain ⟨c0, c1, c2, lB⟩ := HSW.out.ins
 go_wp2_with fail
 refine (baxis_at i 20 g off 4 c zs (k0 : Int) (m : Int) W (HH.out.tab.on HSW.out.old) HSW.out.row HH.out.axis hn0 hcap HZ0.out).mono ?_
 rintro e w1 ⟨rfl, hb1⟩
 have HS1 := Lib.hid (HSW.out.below hb1)
 clear hb1 c0 c1 c2 lB
 obtain ⟨c0, c1, c2, lB⟩ := HS1.out.ins
 rw [HOK.out]
 go_upto_region 3 with (refine wpList_store_new rfl 111 _ _ rfl w1 _ axZ rfl rfl rfl ax_size rfl axZ_one ?_)
 refine wp_name fun W3 hW3 => ?_
 obtain ⟨D, hD⟩ : ∃ D, D = w1.heap.size := ⟨_, rfl⟩
 have hh : W3.heap[D]? = some (.cells axZ 111) := by rw [hW3.out, hD]; exact heap_alloc_new _ _
 have HS3 := Lib.hid (HS1.out.below (show Below w1.heap.size w1 W3 by rw [hW3.out]; exact belowBy))
 have hDg : D ≠ g := fun e => by have := HS1.out.row.lt; omega
 have HH3 := Lib.hid hh
 have HDW : Hid (w.heap.size ≤ D) := Lib.hid (by have := HS1.out.but.size; omega)
 have HDB : Hid (D ≠ B) := Lib.hid (by omega)
 have HD0 : Hid (w0.heap.size ≤ D) := Lib.hid (by have := HS1.out.old.size; omega)
 rw [← hD]
 (try simp only [Act.put])
 clear hW3 hD c0 c1 c2 lB
 obtain ⟨bx, ox, x, hA, hbx, hx, hok, hrng⟩ := RowX.at (HH.out.axes.below HS3.out.old) (i := k0) (by rw [HM.out]; omega)
 have HRX := Lib.hid hrng
 have HOX := Lib.hid hok
 have hxe : xs[k0]? = some x := hx
 rw [HXK.out] at hxe
 cases hxe
 have HSZ1 : Hid ((Tryd.prog.info? 111).map (·.size) = some x.cells.length) := Lib.hid (by rw [HOX.out.len]; exact ax_size)
 have HSZ2 : Hid ((Tryd.prog.info? 111).map (·.size) = some x.cells.toArray.size) := Lib.hid (by rw [List.size_toArray, HOX.out.len]; exact ax_size)
 have HSZ3 : Hid (axZ.size = x.cells.toArray.size) := Lib.hid (by have := HOX.out.len; simp [axZ, this])
 clear hx hok hrng
 subst hA
 go_upto_region 5 with (first | refine wpList_load_mid rfl 111 _ rfl bx (ox + k0 * 26) rfl x.cells _ HRX.out Tryd.underlying111 rfl HSZ1.out ?_ | refine wpList_store_row rfl 111 _ _ rfl D x.cells.toArray rfl rfl 111 _ HH3.out HSZ2.out HSZ3.out HOX.out.one ?_)
 refine wp_name fun W4 hW4 => ?_
 have hh4 : W4.heap[D]? = some (.cells x.cells.toArray 111) := by rw [hW4.out]; exact setRow_heap _ _ _ _ _ _ HH3.out
 have HA4 : Hid (AxV W4 D x.st x.vel x.ins) := Lib.hid ⟨heap_cell 0 _ hh4 (by rw [List.getElem?_toArray]; exact HOX.out.c0), heap_cell 11 _ hh4 (by rw [List.getElem?_toArray]; exact HOX.out.c11), heap_cell 25 _ hh4 (by rw [List.getElem?_toArray]; exact HOX.out.c25), (Array.getElem?_eq_some_iff.1 hh4).1⟩
 have HS4 : Hid (InS w0 w W4 B i 20 g off 4 c zs) := Lib.hid (by rw [hW4.out]; exact HS3.out.setRow HDW.out hDg HDB.out HD0.out _)
 clear hW4 hh4
 clear HH3 HS3 HS1 HSW
 obtain ⟨c0, c1, c2, lB⟩ := HS4.out.ins
 obtain ⟨a0, a11, a25, lD⟩ := HA4.out
 have HSW4 := HS4
 have HAW4 := HA4
 obtain ⟨st, hst⟩ : ∃ q, x.st = q := ⟨_, rfl⟩
 rw [hst] at HEQ a0 HA4 HAW4
 clear hst
 by_cases h7 : st = 7
 ·have u7 : (st == 7) = true := by simp [h7]
  have u0 : (st != 0) = true := by simp [h7]
  have HEQ : Hid (looksP 20 off (some x) zs = (zs.set (off + 2) 1).set (off + 3) 1) := Lib.hid (by rw [HEQ.out, h7]; rfl)
  clear h7
  go_wp2_with fail
  refine (HSW4.out.set HH.out.tab hcap (by (try simp only [List.length_set]); omega) nmStatus (2) (true) othK.s20 (by omega)).mono ?_
  rintro e w5 ⟨rfl, hbt, hrw⟩
  have HSw5 := Lib.hid (HSW4.out.next hbt hrw)
  have HAw5 := Lib.hid (HAW4.out.next hbt hDg)
  clear hbt hrw c0 c1 c2 lB a0 a11 a25 lD
  obtain ⟨c0, c1, c2, lB⟩ := HSw5.out.ins
  obtain ⟨a0, a11, a25, lD⟩ := HAw5.out
  go_wp2_with fail
  refine (HSw5.out.set HH.out.tab hcap (by (try simp only [List.length_set]); omega) nmError (3) (true) othK.e20 (by omega)).mono ?_
  rintro e w6 ⟨rfl, hbt, hrw⟩
  have HSw6 := Lib.hid (HSw5.out.next hbt hrw)
  have HAw6 := Lib.hid (HAw5.out.next hbt hDg)
  clear hbt hrw c0 c1 c2 lB a0 a11 a25 lD
  obtain ⟨c0, c1, c2, lB⟩ := HSw6.out.ins
  obtain ⟨a0, a11, a25, lD⟩ := HAw6.out
  go_wp2
  refine bodyPost_end (results_none rfl _ _ _) rfl ⟨rfl, HSw6.out.but, ?_⟩
  rw [HEQ.out]
  first | exact HSw6.out.row | (have hrow := HSw6.out.row; simpa using hrow)
 ·by_cases h0 : st = 0
  ·have u7 : (st == 7) = false := by simp [h7]
   have u0 : (st != 0) = false := by simp [h0]
   have HEQ : Hid (looksP 20 off (some x) zs = (zs.set (off + 2) 0).set (off + 3) 0) := Lib.hid (by rw [HEQ.out, h0]; rfl)
   clear h7 h0
   go_wp2_with fail
   refine (HSW4.out.set HH.out.tab hcap (by (try simp only [List.length_set]); omega) nmStatus (2) (false) othK.s20 (by omega)).mono ?_
   rintro e w5 ⟨rfl, hbt, hrw⟩
   have HSw5 := Lib.hid (HSW4.out.next hbt hrw)
   have HAw5 := Lib.hid (HAW4.out.next hbt hDg)
   clear hbt hrw c0 c1 c2 lB a0 a11 a25 lD
   obtain ⟨c0, c1, c2, lB⟩ := HSw5.out.ins
   obtain ⟨a0, a11, a25, lD⟩ := HAw5.out
   go_wp2_with fail
   refine (HSw5.out.set HH.out.tab hcap (by (try simp only [List.length_set]); omega) nmError (3) (false) othK.e20 (by omega)).mono ?_
   rintro e w6 ⟨rfl, hbt, hrw⟩
   have HSw6 := Lib.hid (HSw5.out.next hbt hrw)
   have HAw6 := Lib.hid (HAw5.out.next hbt hDg)
   clear hbt hrw c0 c1 c2 lB a0 a11 a25 lD
   obtain ⟨c0, c1, c2, lB⟩ := HSw6.out.ins
   obtain ⟨a0, a11, a25, lD⟩ := HAw6.out
   go_wp2
   refine bodyPost_end (results_none rfl _ _ _) rfl ⟨rfl, HSw6.out.but, ?_⟩
   rw [HEQ.out]
   first | exact HSw6.out.row | (have hrow := HSw6.out.row; simpa using hrow)
  ·have u7 : (st == 7) = false := by simp [h7]
   have u0 : (st != 0) = true := by simp [h0]
   have HEQ : Hid (looksP 20 off (some x) zs = (zs.set (off + 2) 1).set (off + 3) 0) := Lib.hid (by rw [HEQ.out, decide_eq_true h0, decide_eq_false h7]; rfl)
   clear h7 h0
   go_wp2_with fail
   refine (HSW4.out.set HH.out.tab hcap (by (try simp only [List.length_set]); omega) nmStatus (2) (true) othK.s20 (by omega)).mono ?_
   rintro e w5 ⟨rfl, hbt, hrw⟩
   have HSw5 := Lib.hid (HSW4.out.next hbt hrw)
   have HAw5 := Lib.hid (HAW4.out.next hbt hDg)
   clear hbt hrw c0 c1 c2 lB a0 a11 a25 lD
   obtain ⟨c0, c1, c2, lB⟩ := HSw5.out.ins
   obtain ⟨a0, a11, a25, lD⟩ := HAw5.out
   go_wp2_with fail
   refine (HSw5.out.set HH.out.tab hcap (by (try simp only [List.length_set]); omega) nmError (3) (false) othK.e20 (by omega)).mono ?_
   rintro e w6 ⟨rfl, hbt, hrw⟩
   have HSw6 := Lib.hid (HSw5.out.next hbt hrw)
   have HAw6 := Lib.hid (HAw5.out.next hbt hDg)
   clear hbt hrw c0 c1 c2 lB a0 a11 a25 lD
   obtain ⟨c0, c1, c2, lB⟩ := HSw6.out.ins
   obtain ⟨a0, a11, a25, lD⟩ := HAw6.out
   go_wp2
   refine bodyPost_end (results_none rfl _ _ _) rfl ⟨rfl, HSw6.out.but, ?_⟩
   rw [HEQ.out]
   first | exact HSw6.out.row | (have hrow := HSw6.out.row; simpa using hrow)

set_option maxRecDepth 100000 in
set_option maxHeartbeats 2000000 in
theorem blook27s (i kind : Int) (g off n c : Nat) (zs : List Int) (xs : List AxS) (A : Option Addr) (cap : Nat) (z0 : Int) (x : AxS) (w0 w : World) (h : LookIn i kind g off n c zs xs A cap w0 w) (hz0 : zs[off]? = some z0) (hx : axP xs z0 = some x) (hk : kind = 27) (hn : n = outsN 27 + 7) :
  Calls Tryd.prog 27 #[insV i kind (some ⟨g, off, none⟩) n c, .slice A xs.length cap] w fun e w' => e = .returned (.tuple #[]) ∧ But g w w' ∧ Row w' g (looksP kind off (some x) zs) := by
 show Calls Tryd.prog 27 #[.agg #[.int .i64 i, .int .i64 kind, .slice (some ⟨g, off, none⟩) n c], .slice A xs.length cap] w _
 obtain rfl : kind = 27 := hk
 obtain rfl : n = outsN 27 + 7 := hn
 have HK := Lib.hid (cmdK (kind := 27) (by omega))
 have hlen0 := h.len
 obtain ⟨za, hza⟩ : ∃ z, zs[off + (outsN 27 + 2)]? = some z := ⟨_, List.getElem?_eq_getElem (by omega)⟩
 have htwo := HK.out.two
 obtain ⟨zv, hzv⟩ : ∃ z, zs[off + 2]? = some z := ⟨_, List.getElem?_eq_getElem (by omega)⟩
 have HZV := Lib.hid hzv
 have HEQ : Hid (looksP 27 off (some x) zs = zs.set (off + outsN 27) (b01 (decide (za ≠ 0) && decide (x.vel = zv)))) := Lib.hid (by unfold looksP; rw [if_neg (by decide), if_pos rfl]; simp only [hza, hzv, Option.getD_some])
 have HZA := Lib.hid hza
 clear hza hlen0 hzv
 have HH := Lib.hid h
 have hcap := h.room
 have hlen := h.len
 have hn0 := h.cnt
 have hfew := h.few
 have hac1 := h.axes.1
 have hac2 := h.axes.2.1
 have HZ0 := Lib.hid hz0
 obtain ⟨m, hm⟩ : ∃ m, xs.length = m := ⟨_, rfl⟩
 have hz1 : 0 ≤ z0 ∧ z0 < xs.length := by
  unfold axP at hx
  by_cases hq : 0 ≤ z0 ∧ z0 < xs.length
  ·exact hq
  ·rw [if_neg hq] at hx; cases hx
 obtain ⟨k0, rfl⟩ : ∃ k0 : Nat, z0 = k0 := ⟨z0.toNat, by omega⟩
 have HXK : Hid (xs[k0]? = some x) := Lib.hid (by unfold axP at hx; rw [if_pos hz1] at hx; simpa using hx)
 rw [hm] at hz1
 have HOK : Hid (axOk (k0 : Int) (m : Int) = true) := Lib.hid (by unfold axOk; rw [decide_eq_true hz1.1, decide_eq_true hz1.2]; rfl)
 have hax : axN (k0 : Int) = (k0 : Int) := by unfold axN; omega
 have hk04 : (0 : Int) ≤ (k0 : Int) ∧ (k0 : Int) < (m : Int) := hz1
 rw [hm] at hac1 hfew ⊢
 have HM := Lib.hid hm
 clear h hz0 hm hx
 go_enter Tryd.func27, Tryd.ntmps27
 go_upto_region 1 with (fail)
 refine wp_name fun W hW => ?_
 obtain ⟨B, hB⟩ : ∃ B, B = w.heap.size := ⟨_, rfl⟩
 have HSW : Hid (InS w0 w W B i 27 g off (outsN 27 + 7) c zs) := Lib.hid (by rw [hB]; exact InS.start HH.out.old HH.out.low HH.out.row (by rw [hW.out]; exact heap_alloc_new _ _) (by rw [hW.out]; exact belowBy))
 (try rw [← hB])
 clear hW hB
 obtain ⟨c0, c1, c2, lB⟩ := HSW.out.ins
 go_wp2_with fail
 refine (baxis_at i 27 g off (outsN 27 + 7) c zs (k0 : Int) (m : Int) W (HH.out.tab.on HSW.out.old) HSW.out.row HH.out.axis hn0 hcap HZ0.out).mono ?_
 rintro e w1 ⟨rfl, hb1⟩
 have HS1 := Lib.hid (HSW.out.below hb1)
 clear hb1 c0 c1 c2 lB
 obtain ⟨c0, c1, c2, lB⟩ := HS1.out.ins
 rw [HOK.out]
 go_upto_region 3 with (refine wpList_store_new rfl 111 _ _ rfl w1 _ axZ rfl rfl rfl ax_size rfl axZ_one ?_)
 refine wp_name fun W3 hW3 => ?_
 obtain ⟨D, hD⟩ : ∃ D, D = w1.heap.size := ⟨_, rfl⟩
 have hh : W3.heap[D]? = some (.cells axZ 111) := by rw [hW3.out, hD]; exact heap_alloc_new _ _
 have HS3 := Lib.hid (HS1.out.below (show Below w1.heap.size w1 W3 by rw [hW3.out]; exact belowBy))
 have hDg : D ≠ g := fun e => by have := HS1.out.row.lt; omega
 have HH3 := Lib.hid hh
 have HDW : Hid (w.heap.size ≤ D) := Lib.hid (by have := HS1.out.but.size; omega)
 have HDB : Hid (D ≠ B) := Lib.hid (by omega)
 have HD0 : Hid (w0.heap.size ≤ D) := Lib.hid (by have := HS1.out.old.size; omega)
 rw [← hD]
 (try simp only [Act.put])
 clear hW3 hD c0 c1 c2 lB
 obtain ⟨bx, ox, x, hA, hbx, hx, hok, hrng⟩ := RowX.at (HH.out.axes.below HS3.out.old) (i := k0) (by rw [HM.out]; omega)
 have HRX := Lib.hid hrng
 have HOX := Lib.hid hok
 have hxe : xs[k0]? = some x := hx
 rw [HXK.out] at hxe
 cases hxe
 have HSZ1 : Hid ((Tryd.prog.info? 111).map (·.size) = some x.cells.length) := Lib.hid (by rw [HOX.out.len]; exact ax_size)
 have HSZ2 : Hid ((Tryd.prog.info? 111).map (·.size) = some x.cells.toArray.size) := Lib.hid (by rw [List.size_toArray, HOX.out.len]; exact ax_size)
 have HSZ3 : Hid (axZ.size = x.cells.toArray.size) := Lib.hid (by have := HOX.out.len; simp [axZ, this])
 clear hx hok hrng
 subst hA
 go_upto_region 5 with (first | refine wpList_load_mid rfl 111 _ rfl bx (ox + k0 * 26) rfl x.cells _ HRX.out Tryd.underlying111 rfl HSZ1.out ?_ | refine wpList_store_row rfl 111 _ _ rfl D x.cells.toArray rfl rfl 111 _ HH3.out HSZ2.out HSZ3.out HOX.out.one ?_)
 refine wp_name fun W4 hW4 => ?_
 have hh4 : W4.heap[D]? = some (.cells x.cells.toArray 111) := by rw [hW4.out]; exact setRow_heap _ _ _ _ _ _ HH3.out
 have HA4 : Hid (AxV W4 D x.st x.vel x.ins) := Lib.hid ⟨heap_cell 0 _ hh4 (by rw [List.getElem?_toArray]; exact HOX.out.c0), heap_cell 11 _ hh4 (by rw [List.getElem?_toArray]; exact HOX.out.c11), heap_cell 25 _ hh4 (by rw [List.getElem?_toArray]; exact HOX.out.c25), (Array.getElem?_eq_some_iff.1 hh4).1⟩
 have HS4 : Hid (InS w0 w W4 B i 27 g off (outsN 27 + 7) c zs) := Lib.hid (by rw [hW4.out]; exact HS3.out.setRow HDW.out hDg HDB.out HD0.out _)
 clear hW4 hh4
 clear HH3 HS3 HS1 HSW
 obtain ⟨c0, c1, c2, lB⟩ := HS4.out.ins
 obtain ⟨a0, a11, a25, lD⟩ := HA4.out
 have HSW4 := HS4
 have HAW4 := HA4
 have HGA := Lib.hid (fun W' (h : Below W4.heap.size W4 W') => InS.get HH.out.tab (HSW4.out.below h) hcap nmActive (outsN 27 + 2) za HK.out.active (by omega) HZA.out)
 have HGA : Hid (∀ W', Below W4.heap.size W4 W' → Calls Tryd.prog 19 #[.agg #[.int .i64 i, .int .i64 27, .slice (some ⟨g, off, none⟩) (outsN 27 + 7) c], .string ⟨#[65, 99, 116, 105, 118, 101]⟩] W' fun e w' => e = .returned (.int .i64 za) ∧ Below W'.heap.size W' w') := HGA
 have HGV := Lib.hid (fun W' (h : Below W4.heap.size W4 W') => InS.get HH.out.tab (HSW4.out.below h) hcap nmVel (2) zv px_27_vel (by omega) HZV.out)
 have HGV : Hid (∀ W', Below W4.heap.size W4 W' → Calls Tryd.prog 19 #[.agg #[.int .i64 i, .int .i64 27, .slice (some ⟨g, off, none⟩) (outsN 27 + 7) c], .string ⟨#[86, 101, 108, 111, 99, 105, 116, 121]⟩] W' fun e w' => e = .returned (.int .i64 zv) ∧ Below W'.heap.size W' w') := HGV
 by_cases hza : za = 0
 ·have ua : (za != 0) = false := by simp [hza]
  have HZ0' := Lib.hid hza
  clear hza
  have HEQ : Hid (looksP 27 off (some x) zs = zs.set (off + outsN 27) 0) := Lib.hid (by rw [HEQ.out]; rw [HZ0'.out]; rfl)
  go_wp2_with fail
  refine wp_region_ext_tail 15 (by kernel_rfl) (by kernel_rfl) ?_
  simp only [List.take_succ_cons, List.take_zero, List.drop_succ_cons, List.drop_zero]
  repeat (go_big_quiet_step (first | (go_at_call 19; with_reducible exact ext_call (HGA.out _ (ext_below ⟨_, rfl⟩))) | (go_at_call 19; with_reducible exact ext_call (HGV.out _ (ext_below ⟨_, rfl⟩)))))
  refine wpQuiet_nil ?_
  intro w2 hb2
  replace hb2 := ext_below hb2
  have HSw2 := Lib.hid (HSW4.out.below hb2)
  have HAw2 := Lib.hid (HAW4.out.next (But.of_below hb2) hDg)
  clear hb2 c0 c1 c2 lB a0 a11 a25 lD
  obtain ⟨c0, c1, c2, lB⟩ := HSw2.out.ins
  obtain ⟨a0, a11, a25, lD⟩ := HAw2.out
  go_wp2_with fail
  refine (HSw2.out.set HH.out.tab hcap (by (try simp only [List.length_set]); omega) nmInVel (outsN 27) (false) (show px 27 nmInVel = some (outsN 27) from HK.out.first) (by omega)).mono ?_
  rintro e w5 ⟨rfl, hbt, hrw⟩
  have HSw5 := Lib.hid (HSw2.out.next hbt hrw)
  have HAw5 := Lib.hid (HAw2.out.next hbt hDg)
  clear hbt hrw c0 c1 c2 lB a0 a11 a25 lD
  obtain ⟨c0, c1, c2, lB⟩ := HSw5.out.ins
  obtain ⟨a0, a11, a25, lD⟩ := HAw5.out
  go_wp2
  refine bodyPost_end (results_none rfl _ _ _) rfl ⟨rfl, HSw5.out.but, ?_⟩
  rw [HEQ.out]
  first | exact HSw5.out.row | (have hrow := HSw5.out.row; simpa using hrow)
 ·have ua : (za != 0) = true := by simp [hza]
  have HNZ := Lib.hid hza
  obtain ⟨vl, hvl⟩ : ∃ q, x.vel = q := ⟨_, rfl⟩
  rw [hvl] at HEQ a11 HA4 HAW4
  clear hvl hza
  by_cases hv : vl = zv
  ·have uv : (vl == zv) = true := by simp [hv]
   have HV := Lib.hid hv
   clear hv
   have HEQ : Hid (looksP 27 off (some x) zs = zs.set (off + outsN 27) 1) := Lib.hid (by rw [HEQ.out]; rw [decide_eq_true HNZ.out, decide_eq_true HV.out]; rfl)
   go_wp2_with fail
   refine wp_region_ext_tail 15 (by kernel_rfl) (by kernel_rfl) ?_
   simp only [List.take_succ_cons, List.take_zero, List.drop_succ_cons, List.drop_zero]
   repeat (go_big_quiet_step (first | (go_at_call 19; with_reducible exact ext_call (HGA.out _ (ext_below ⟨_, rfl⟩))) | (go_at_call 19; with_reducible exact ext_call (HGV.out _ (ext_below ⟨_, rfl⟩)))))
   refine wpQuiet_nil ?_
   intro w2 hb2
   replace hb2 := ext_below hb2
   have HSw2 := Lib.hid (HSW4.out.below hb2)
   have HAw2 := Lib.hid (HAW4.out.next (But.of_below hb2) hDg)
   clear hb2 c0 c1 c2 lB a0 a11 a25 lD
   obtain ⟨c0, c1, c2, lB⟩ := HSw2.out.ins
   obtain ⟨a0, a11, a25, lD⟩ := HAw2.out
   go_wp2_with fail
   refine (HSw2.out.set HH.out.tab hcap (by (try simp only [List.length_set]); omega) nmInVel (outsN 27) (true) (show px 27 nmInVel = some (outsN 27) from HK.out.first) (by omega)).mono ?_
   rintro e w5 ⟨rfl, hbt, hrw⟩
   have HSw5 := Lib.hid (HSw2.out.next hbt hrw)
   have HAw5 := Lib.hid (HAw2.out.next hbt hDg)
   clear hbt hrw c0 c1 c2 lB a0 a11 a25 lD
   obtain ⟨c0, c1, c2, lB⟩ := HSw5.out.ins
   obtain ⟨a0, a11, a25, lD⟩ := HAw5.out
   go_wp2
   refine bodyPost_end (results_none rfl _ _ _) rfl ⟨rfl, HSw5.out.but, ?_⟩
   rw [HEQ.out]
   first | exact HSw5.out.row | (have hrow := HSw5.out.row; simpa using hrow)
  ·have uv : (vl == zv) = false := by simp [hv]
   have HV := Lib.hid hv
   clear hv
   have HEQ : Hid (looksP 27 off (some x) zs = zs.set (off + outsN 27) 0) := Lib.hid (by rw [HEQ.out]; rw [decide_eq_true HNZ.out, decide_eq_false HV.out]; rfl)
   go_wp2_with fail
   refine wp_region_ext_tail 15 (by kernel_rfl) (by kernel_rfl) ?_
   simp only [List.take_succ_cons, List.take_zero, List.drop_succ_cons, List.drop_zero]
   repeat (go_big_quiet_step (first | (go_at_call 19; with_reducible exact ext_call (HGA.out _ (ext_below ⟨_, rfl⟩))) | (go_at_call 19; with_reducible exact ext_call (HGV.out _ (ext_below ⟨_, rfl⟩)))))
   refine wpQuiet_nil ?_
   intro w2 hb2
   replace hb2 := ext_below hb2
   have HSw2 := Lib.hid (HSW4.out.below hb2)
   have HAw2 := Lib.hid (HAW4.out.next (But.of_below hb2) hDg)
   clear hb2 c0 c1 c2 lB a0 a11 a25 lD
   obtain ⟨c0, c1, c2, lB⟩ := HSw2.out.ins
   obtain ⟨a0, a11, a25, lD⟩ := HAw2.out
   go_wp2_with fail
   refine (HSw2.out.set HH.out.tab hcap (by (try simp only [List.length_set]); omega) nmInVel (outsN 27) (false) (show px 27 nmInVel = some (outsN 27) from HK.out.first) (by omega)).mono ?_
   rintro e w5 ⟨rfl, hbt, hrw⟩
   have HSw5 := Lib.hid (HSw2.out.next hbt hrw)
   have HAw5 := Lib.hid (HAw2.out.next hbt hDg)
   clear hbt hrw c0 c1 c2 lB a0 a11 a25 lD
   obtain ⟨c0, c1, c2, lB⟩ := HSw5.out.ins
   obtain ⟨a0, a11, a25, lD⟩ := HAw5.out
   go_wp2
   refine bodyPost_end (results_none rfl _ _ _) rfl ⟨rfl, HSw5.out.but, ?_⟩
   rw [HEQ.out]
   first | exact HSw5.out.row | (have hrow := HSw5.out.row; simpa using hrow)

set_option maxRecDepth 100000 in
set_option maxHeartbeats 2000000 in
theorem blook28s (i kind : Int) (g off n c : Nat) (zs : List Int) (xs : List AxS) (A : Option Addr) (cap : Nat) (z0 : Int) (x : AxS) (w0 w : World) (h : LookIn i kind g off n c zs xs A cap w0 w) (hz0 : zs[off]? = some z0) (hx : axP xs z0 = some x) (hk : kind = 28) (hn : n = outsN 28 + 7) :
  Calls Tryd.prog 27 #[insV i kind (some ⟨g, off, none⟩) n c, .slice A xs.length cap] w fun e w' => e = .returned (.tuple #[]) ∧ But g w w' ∧ Row w' g (looksP kind off (some x) zs) := by
 show Calls Tryd.prog 27 #[.agg #[.int .i64 i, .int .i64 kind, .slice (some ⟨g, off, none⟩) n c], .slice A xs.length cap] w _
 obtain rfl : kind = 28 := hk
 obtain rfl : n = outsN 28 + 7 := hn
 have HK := Lib.hid (cmdK (kind := 28) (by omega))
 have hlen0 := h.len
 obtain ⟨za, hza⟩ : ∃ z, zs[off + (outsN 28 + 2)]? = some z := ⟨_, List.getElem?_eq_getElem (by omega)⟩
 have HEQ : Hid (looksP 28 off (some x) zs = zs.set (off + outsN 28) (b01 (decide (za ≠ 0) && x.ins))) := Lib.hid (by unfold looksP; rw [if_neg (by decide), if_neg (by decide), if_pos rfl]; simp only [hza, Option.getD_some])
 have HZA := Lib.hid hza
 clear hza hlen0
 have HH := Lib.hid h
 have hcap := h.room
 have hlen := h.len
 have hn0 := h.cnt
 have hfew := h.few
 have hac1 := h.axes.1
 have hac2 := h.axes.2.1
 have HZ0 := Lib.hid hz0
 obtain ⟨m, hm⟩ : ∃ m, xs.length = m := ⟨_, rfl⟩
 have hz1 : 0 ≤ z0 ∧ z0 < xs.length := by
  unfold axP at hx
  by_cases hq : 0 ≤ z0 ∧ z0 < xs.length
  ·exact hq
  ·rw [if_neg hq] at hx; cases hx
 obtain ⟨k0, rfl⟩ : ∃ k0 : Nat, z0 = k0 := ⟨z0.toNat, by omega⟩
 have HXK : Hid (xs[k0]? = some x) := Lib.hid (by unfold axP at hx; rw [if_pos hz1] at hx; simpa using hx)
 rw [hm] at hz1
 have HOK : Hid (axOk (k0 : Int) (m : Int) = true) := Lib.hid (by unfold axOk; rw [decide_eq_true hz1.1, decide_eq_true hz1.2]; rfl)
 have hax : axN (k0 : Int) = (k0 : Int) := by unfold axN; omega
 have hk04 : (0 : Int) ≤ (k0 : Int) ∧ (k0 : Int) < (m : Int) := hz1
 rw [hm] at hac1 hfew ⊢
 have HM := Lib.hid hm
 clear h hz0 hm hx
 go_enter Tryd.func27, Tryd.ntmps27
 go_upto_region 1 with (fail)
 refine wp_name fun W hW => ?_
 obtain ⟨B, hB⟩ : ∃ B, B = w.heap.size := ⟨_, rfl⟩
 have HSW : Hid (InS w0 w W B i 28 g off (outsN 28 + 7) c zs) := Lib.hid (by rw [hB]; exact InS.start HH.out.old HH.out.low HH.out.row (by rw [hW.out]; exact heap_alloc_new _ _) (by rw [hW.out]; exact belowBy))
 (try rw [← hB])
 clear hW hB
 obtain ⟨c0, c1, c2, lB⟩ := HSW.out.ins
 go_wp2_with fail
 refine (baxis_at i 28 g off (outsN 28 + 7) c zs (k0 : Int) (m : Int) W (HH.out.tab.on HSW.out.old) HSW.out.row HH.out.axis hn0 hcap HZ0.out).mono ?_
 rintro e w1 ⟨rfl, hb1⟩
 have HS1 := Lib.hid (HSW.out.below hb1)
 clear hb1 c0 c1 c2 lB
 obtain ⟨c0, c1, c2, lB⟩ := HS1.out.ins
 rw [HOK.out]
 go_upto_region 3 with (refine wpList_store_new rfl 111 _ _ rfl w1 _ axZ rfl rfl rfl ax_size rfl axZ_one ?_)
 refine wp_name fun W3 hW3 => ?_
 obtain ⟨D, hD⟩ : ∃ D, D = w1.heap.size := ⟨_, rfl⟩
 have hh : W3.heap[D]? = some (.cells axZ 111) := by rw [hW3.out, hD]; exact heap_alloc_new _ _
 have HS3 := Lib.hid (HS1.out.below (show Below w1.heap.size w1 W3 by rw [hW3.out]; exact belowBy))
 have hDg : D ≠ g := fun e => by have := HS1.out.row.lt; omega
 have HH3 := Lib.hid hh
 have HDW : Hid (w.heap.size ≤ D) := Lib.hid (by have := HS1.out.but.size; omega)
 have HDB : Hid (D ≠ B) := Lib.hid (by omega)
 have HD0 : Hid (w0.heap.size ≤ D) := Lib.hid (by have := HS1.out.old.size; omega)
 rw [← hD]
 (try simp only [Act.put])
 clear hW3 hD c0 c1 c2 lB
 obtain ⟨bx, ox, x, hA, hbx, hx, hok, hrng⟩ := RowX.at (HH.out.axes.below HS3.out.old) (i := k0) (by rw [HM.out]; omega)
 have HRX := Lib.hid hrng
 have HOX := Lib.hid hok
 have hxe : xs[k0]? = some x := hx
 rw [HXK.out] at hxe
 cases hxe
 have HSZ1 : Hid ((Tryd.prog.info? 111).map (·.size) = some x.cells.length) := Lib.hid (by rw [HOX.out.len]; exact ax_size)
 have HSZ2 : Hid ((Tryd.prog.info? 111).map (·.size) = some x.cells.toArray.size) := Lib.hid (by rw [List.size_toArray, HOX.out.len]; exact ax_size)
 have HSZ3 : Hid (axZ.size = x.cells.toArray.size) := Lib.hid (by have := HOX.out.len; simp [axZ, this])
 clear hx hok hrng
 subst hA
 go_upto_region 5 with (first | refine wpList_load_mid rfl 111 _ rfl bx (ox + k0 * 26) rfl x.cells _ HRX.out Tryd.underlying111 rfl HSZ1.out ?_ | refine wpList_store_row rfl 111 _ _ rfl D x.cells.toArray rfl rfl 111 _ HH3.out HSZ2.out HSZ3.out HOX.out.one ?_)
 refine wp_name fun W4 hW4 => ?_
 have hh4 : W4.heap[D]? = some (.cells x.cells.toArray 111) := by rw [hW4.out]; exact setRow_heap _ _ _ _ _ _ HH3.out
 have HA4 : Hid (AxV W4 D x.st x.vel x.ins) := Lib.hid ⟨heap_cell 0 _ hh4 (by rw [List.getElem?_toArray]; exact HOX.out.c0), heap_cell 11 _ hh4 (by rw [List.getElem?_toArray]; exact HOX.out.c11), heap_cell 25 _ hh4 (by rw [List.getElem?_toArray]; exact HOX.out.c25), (Array.getElem?_eq_some_iff.1 hh4).1⟩
 have HS4 : Hid (InS w0 w W4 B i 28 g off (outsN 28 + 7) c zs) := Lib.hid (by rw [hW4.out]; exact HS3.out.setRow HDW.out hDg HDB.out HD0.out _)
 clear hW4 hh4
 clear HH3 HS3 HS1 HSW
 obtain ⟨c0, c1, c2, lB⟩ := HS4.out.ins
 obtain ⟨a0, a11, a25, lD⟩ := HA4.out
 have HSW4 := HS4
 have HAW4 := HA4
 have HGA := Lib.hid (fun W' (h : Below W4.heap.size W4 W') => InS.get HH.out.tab (HSW4.out.below h) hcap nmActive (outsN 28 + 2) za HK.out.active (by omega) HZA.out)
 have HGA : Hid (∀ W', Below W4.heap.size W4 W' → Calls Tryd.prog 19 #[.agg #[.int .i64 i, .int .i64 28, .slice (some ⟨g, off, none⟩) (outsN 28 + 7) c], .string ⟨#[65, 99, 116, 105, 118, 101]⟩] W' fun e w' => e = .returned (.int .i64 za) ∧ Below W'.heap.size W' w') := HGA
 by_cases hza : za = 0
 ·have ua : (za != 0) = false := by simp [hza]
  have HZ0' := Lib.hid hza
  clear hza
  have HEQ : Hid (looksP 28 off (some x) zs = zs.set (off + outsN 28) 0) := Lib.hid (by rw [HEQ.out]; rw [HZ0'.out]; rfl)
  go_wp2_with fail
  refine wp_region_ext_tail 11 (by kernel_rfl) (by kernel_rfl) ?_
  simp only [List.take_succ_cons, List.take_zero, List.drop_succ_cons, List.drop_zero]
  repeat (go_big_quiet_step (first | (go_at_call 19; with_reducible exact ext_call (HGA.out _ (ext_below ⟨_, rfl⟩)))))
  refine wpQuiet_nil ?_
  intro w2 hb2
  replace hb2 := ext_below hb2
  have HSw2 := Lib.hid (HSW4.out.below hb2)
  have HAw2 := Lib.hid (HAW4.out.next (But.of_below hb2) hDg)
  clear hb2 c0 c1 c2 lB a0 a11 a25 lD
  obtain ⟨c0, c1, c2, lB⟩ := HSw2.out.ins
  obtain ⟨a0, a11, a25, lD⟩ := HAw2.out
  go_wp2_with fail
  refine (HSw2.out.set HH.out.tab hcap (by (try simp only [List.length_set]); omega) nmInGear (outsN 28) (false) (show px 28 nmInGear = some (outsN 28) from HK.out.first) (by omega)).mono ?_
  rintro e w5 ⟨rfl, hbt, hrw⟩
  have HSw5 := Lib.hid (HSw2.out.next hbt hrw)
  have HAw5 := Lib.hid (HAw2.out.next hbt hDg)
  clear hbt hrw c0 c1 c2 lB a0 a11 a25 lD
  obtain ⟨c0, c1, c2, lB⟩ := HSw5.out.ins
  obtain ⟨a0, a11, a25, lD⟩ := HAw5.out
  go_wp2
  refine bodyPost_end (results_none rfl _ _ _) rfl ⟨rfl, HSw5.out.but, ?_⟩
  rw [HEQ.out]
  first | exact HSw5.out.row | (have hrow := HSw5.out.row; simpa using hrow)
 ·have ua : (za != 0) = true := by simp [hza]
  have HNZ := Lib.hid hza
  obtain ⟨vl, hvl⟩ : ∃ q, x.ins = q := ⟨_, rfl⟩
  rw [hvl] at HEQ a25 HA4 HAW4
  clear hvl hza
  cases vl
  ·have HEQ : Hid (looksP 28 off (some x) zs = zs.set (off + outsN 28) 0) := Lib.hid (by rw [HEQ.out]; rw [decide_eq_true HNZ.out]; rfl)
   go_wp2_with fail
   refine wp_region_ext_tail 11 (by kernel_rfl) (by kernel_rfl) ?_
   simp only [List.take_succ_cons, List.take_zero, List.drop_succ_cons, List.drop_zero]
   repeat (go_big_quiet_step (first | (go_at_call 19; with_reducible exact ext_call (HGA.out _ (ext_below ⟨_, rfl⟩)))))
   refine wpQuiet_nil ?_
   intro w2 hb2
   replace hb2 := ext_below hb2
   have HSw2 := Lib.hid (HSW4.out.below hb2)
   have HAw2 := Lib.hid (HAW4.out.next (But.of_below hb2) hDg)
   clear hb2 c0 c1 c2 lB a0 a11 a25 lD
   obtain ⟨c0, c1, c2, lB⟩ := HSw2.out.ins
   obtain ⟨a0, a11, a25, lD⟩ := HAw2.out
   go_wp2_with fail
   refine (HSw2.out.set HH.out.tab hcap (by (try simp only [List.length_set]); omega) nmInGear (outsN 28) (false) (show px 28 nmInGear = some (outsN 28) from HK.out.first) (by omega)).mono ?_
   rintro e w5 ⟨rfl, hbt, hrw⟩
   have HSw5 := Lib.hid (HSw2.out.next hbt hrw)
   have HAw5 := Lib.hid (HAw2.out.next hbt hDg)
   clear hbt hrw c0 c1 c2 lB a0 a11 a25 lD
   obtain ⟨c0, c1, c2, lB⟩ := HSw5.out.ins
   obtain ⟨a0, a11, a25, lD⟩ := HAw5.out
   go_wp2
   refine bodyPost_end (results_none rfl _ _ _) rfl ⟨rfl, HSw5.out.but, ?_⟩
   rw [HEQ.out]
   first | exact HSw5.out.row | (have hrow := HSw5.out.row; simpa using hrow)
  ·have HEQ : Hid (looksP 28 off (some x) zs = zs.set (off + outsN 28) 1) := Lib.hid (by rw [HEQ.out]; rw [decide_eq_true HNZ.out]; rfl)
   go_wp2_with fail
   refine wp_region_ext_tail 11 (by kernel_rfl) (by kernel_rfl) ?_
   simp only [List.take_succ_cons, List.take_zero, List.drop_succ_cons, List.drop_zero]
   repeat (go_big_quiet_step (first | (go_at_call 19; with_reducible exact ext_call (HGA.out _ (ext_below ⟨_, rfl⟩)))))
   refine wpQuiet_nil ?_
   intro w2 hb2
   replace hb2 := ext_below hb2
   have HSw2 := Lib.hid (HSW4.out.below hb2)
   have HAw2 := Lib.hid (HAW4.out.next (But.of_below hb2) hDg)
   clear hb2 c0 c1 c2 lB a0 a11 a25 lD
   obtain ⟨c0, c1, c2, lB⟩ := HSw2.out.ins
   obtain ⟨a0, a11, a25, lD⟩ := HAw2.out
   go_wp2_with fail
   refine (HSw2.out.set HH.out.tab hcap (by (try simp only [List.length_set]); omega) nmInGear (outsN 28) (true) (show px 28 nmInGear = some (outsN 28) from HK.out.first) (by omega)).mono ?_
   rintro e w5 ⟨rfl, hbt, hrw⟩
   have HSw5 := Lib.hid (HSw2.out.next hbt hrw)
   have HAw5 := Lib.hid (HAw2.out.next hbt hDg)
   clear hbt hrw c0 c1 c2 lB a0 a11 a25 lD
   obtain ⟨c0, c1, c2, lB⟩ := HSw5.out.ins
   obtain ⟨a0, a11, a25, lD⟩ := HAw5.out
   go_wp2
   refine bodyPost_end (results_none rfl _ _ _) rfl ⟨rfl, HSw5.out.but, ?_⟩
   rw [HEQ.out]
   first | exact HSw5.out.row | (have hrow := HSw5.out.row; simpa using hrow)

set_option maxRecDepth 100000 in
set_option maxHeartbeats 2000000 in
theorem blook29s (i kind : Int) (g off n c : Nat) (zs : List Int) (xs : List AxS) (A : Option Addr) (cap : Nat) (z0 : Int) (x : AxS) (w0 w : World) (h : LookIn i kind g off n c zs xs A cap w0 w) (hz0 : zs[off]? = some z0) (hx : axP xs z0 = some x) (hk : kind = 29) (hn : n = 5) :
  Calls Tryd.prog 27 #[insV i kind (some ⟨g, off, none⟩) n c, .slice A xs.length cap] w fun e w' => e = .returned (.tuple #[]) ∧ But g w w' ∧ Row w' g (looksP kind off (some x) zs) := by
 show Calls Tryd.prog 27 #[.agg #[.int .i64 i, .int .i64 kind, .slice (some ⟨g, off, none⟩) n c], .slice A xs.length cap] w _
 obtain rfl : kind = 29 := hk
 obtain rfl : n = 5 := hn
 have hlen0 := h.len
 obtain ⟨z4, hz4⟩ : ∃ z, zs[off + 4]? = some z := ⟨_, List.getElem?_eq_getElem (by omega)⟩
 have HEQ : Hid (looksP 29 off (some x) zs = if z4 = 2 then ((zs.set (off + 2) (b01 (decide (x.st ≠ 7)))).set (off + 3) (b01 (decide (x.st = 7)))).set (off + 4) 1 else zs) := Lib.hid (by unfold looksP; rw [if_neg (by decide), if_neg (by decide), if_neg (by decide), if_pos rfl]; simp only [hz4, Option.getD_some, stP]; rfl)
 have HZ4 := Lib.hid hz4
 clear hz4 hlen0
 have HH := Lib.hid h
 have hcap := h.room
 have hlen := h.len
 have hn0 := h.cnt
 have hfew := h.few
 have hac1 := h.axes.1
 have hac2 := h.axes.2.1
 have HZ0 := Lib.hid hz0
 obtain ⟨m, hm⟩ : ∃ m, xs.length = m := ⟨_, rfl⟩
 have hz1 : 0 ≤ z0 ∧ z0 < xs.length := by
  unfold axP at hx
  by_cases hq : 0 ≤ z0 ∧ z0 < xs.length
  ·exact hq
  ·rw [if_neg hq] at hx; cases hx
 obtain ⟨k0, rfl⟩ : ∃ k0 : Nat, z0 = k0 := ⟨z0.toNat, by omega⟩
 have HXK : Hid (xs[k0]? = some x) := Lib.hid (by unfold axP at hx; rw [if_pos hz1] at hx; simpa using hx)
 rw [hm] at hz1
 have HOK : Hid (axOk (k0 : Int) (m : Int) = true) := Lib.hid (by unfold axOk; rw [decide_eq_true hz1.1, decide_eq_true hz1.2]; rfl)
 have hax : axN (k0 : Int) = (k0 : Int) := by unfold axN; omega
 have hk04 : (0 : Int) ≤ (k0 : Int) ∧ (k0 : Int) < (m : Int) := hz1
 rw [hm] at hac1 hfew ⊢
 have HM := Lib.hid hm
 clear h hz0 hm hx
 go_enter Tryd.func27, Tryd.ntmps27
 go_upto_region 1 with (fail)
 refine wp_name fun W hW => ?_
 obtain ⟨B, hB⟩ : ∃ B, B = w.heap.size := ⟨_, rfl⟩
 have HSW : Hid (InS w0 w W B i 29 g off 5 c zs) := Lib.hid (by rw [hB]; exact InS.start HH.out.old HH.out.low HH.out.row (by rw [hW.out]; exact heap_alloc_new _ _) (by rw [hW.out]; exact belowBy))
 (try rw [← hB])
 clear hW hB
 obtain ⟨c0, c1, c2, lB⟩ := HSW.out.ins
 go_wp2_with fail
 refine (baxis_at i 29 g off 5 c zs (k0 : Int) (m : Int) W (HH.out.tab.on HSW.out.old) HSW.out.row HH.out.axis hn0 hcap HZ0.out).mono ?_
 rintro e w1 ⟨rfl, hb1⟩
 have HS1 := Lib.hid (HSW.out.below hb1)
 clear hb1 c0 c1 c2 lB
 obtain ⟨c0, c1, c2, lB⟩ := HS1.out.ins
 rw [HOK.out]
 go_upto_region 3 with (refine wpList_store_new rfl 111 _ _ rfl w1 _ axZ rfl rfl rfl ax_size rfl axZ_one ?_)
 refine wp_name fun W3 hW3 => ?_
 obtain ⟨D, hD⟩ : ∃ D, D = w1.heap.size := ⟨_, rfl⟩
 have hh : W3.heap[D]? = some (.cells axZ 111) := by rw [hW3.out, hD]; exact heap_alloc_new _ _
 have HS3 := Lib.hid (HS1.out.below (show Below w1.heap.size w1 W3 by rw [hW3.out]; exact belowBy))
 have hDg : D ≠ g := fun e => by have := HS1.out.row.lt; omega
 have HH3 := Lib.hid hh
 have HDW : Hid (w.heap.size ≤ D) := Lib.hid (by have := HS1.out.but.size; omega)
 have HDB : Hid (D ≠ B) := Lib.hid (by omega)
 have HD0 : Hid (w0.heap.size ≤ D) := Lib.hid (by have := HS1.out.old.size; omega)
 rw [← hD]
 (try simp only [Act.put])
 clear hW3 hD c0 c1 c2 lB
 obtain ⟨bx, ox, x, hA, hbx, hx, hok, hrng⟩ := RowX.at (HH.out.axes.below HS3.out.old) (i := k0) (by rw [HM.out]; omega)
 have HRX := Lib.hid hrng
 have HOX := Lib.hid hok
 have hxe : xs[k0]? = some x := hx
 rw [HXK.out] at hxe
 cases hxe
 have HSZ1 : Hid ((Tryd.prog.info? 111).map (·.size) = some x.cells.length) := Lib.hid (by rw [HOX.out.len]; exact ax_size)
 have HSZ2 : Hid ((Tryd.prog.info? 111).map (·.size) = some x.cells.toArray.size) := Lib.hid (by rw [List.size_toArray, HOX.out.len]; exact ax_size)
 have HSZ3 : Hid (axZ.size = x.cells.toArray.size) := Lib.hid (by have := HOX.out.len; simp [axZ, this])
 clear hx hok hrng
 subst hA
 go_upto_region 5 with (first | refine wpList_load_mid rfl 111 _ rfl bx (ox + k0 * 26) rfl x.cells _ HRX.out Tryd.underlying111 rfl HSZ1.out ?_ | refine wpList_store_row rfl 111 _ _ rfl D x.cells.toArray rfl rfl 111 _ HH3.out HSZ2.out HSZ3.out HOX.out.one ?_)
 refine wp_name fun W4 hW4 => ?_
 have hh4 : W4.heap[D]? = some (.cells x.cells.toArray 111) := by rw [hW4.out]; exact setRow_heap _ _ _ _ _ _ HH3.out
 have HA4 : Hid (AxV W4 D x.st x.vel x.ins) := Lib.hid ⟨heap_cell 0 _ hh4 (by rw [List.getElem?_toArray]; exact HOX.out.c0), heap_cell 11 _ hh4 (by rw [List.getElem?_toArray]; exact HOX.out.c11), heap_cell 25 _ hh4 (by rw [List.getElem?_toArray]; exact HOX.out.c25), (Array.getElem?_eq_some_iff.1 hh4).1⟩
 have HS4 : Hid (InS w0 w W4 B i 29 g off 5 c zs) := Lib.hid (by rw [hW4.out]; exact HS3.out.setRow HDW.out hDg HDB.out HD0.out _)
 clear hW4 hh4
 clear HH3 HS3 HS1 HSW
 obtain ⟨c0, c1, c2, lB⟩ := HS4.out.ins
 obtain ⟨a0, a11, a25, lD⟩ := HA4.out
 have HSW4 := HS4
 have HAW4 := HA4
 obtain ⟨st, hst⟩ : ∃ q, x.st = q := ⟨_, rfl⟩
 rw [hst] at HEQ a0 HA4 HAW4
 clear hst
 go_wp2_with fail
 refine (HSW4.out.inner HH.out.tab hcap 0 4 othK.i29 (by omega)).mono ?_
 rintro e w5 ⟨rfl, hbi⟩
 have HSw5 := Lib.hid (HSW4.out.below hbi)
 have HAw5 := Lib.hid (HAW4.out.next (But.of_below hbi) hDg)
 clear hbi c0 c1 c2 lB a0 a11 a25 lD
 obtain ⟨c0, c1, c2, lB⟩ := HSw5.out.ins
 obtain ⟨a0, a11, a25, lD⟩ := HAw5.out
 have cz : w5.cell? ⟨g, off + (4 + 0), none⟩ = some (.int .i64 z4) := HSw5.out.row.cell _ _ HZ4.out
 have lgi : g < w5.heap.size := HSw5.out.row.lt
 by_cases h2 : z4 = 2
 ·have u2 : (z4 == 2) = true := by simp [h2]
  have H2 := Lib.hid h2
  clear h2
  by_cases h7 : st = 7
  ·have u7 : (st == 7) = true := by simp [h7]
   have u7n : (st != 7) = false := by simp [h7]
   have HEQ : Hid (looksP 29 off (some x) zs = ((zs.set (off + 2) 0).set (off + 3) 1).set (off + 4) 1) := Lib.hid (by rw [HEQ.out, if_pos H2.out, h7]; rfl)
   clear h7
   go_wp2_with fail
   clear cz lgi
   refine (HSw5.out.set HH.out.tab hcap (by (try simp only [List.length_set]); omega) nmDone (2) (false) othK.d29 (by omega)).mono ?_
   rintro e w6 ⟨rfl, hbt, hrw⟩
   have HSw6 := Lib.hid (HSw5.out.next hbt hrw)
   have HAw6 := Lib.hid (HAw5.out.next hbt hDg)
   clear hbt hrw c0 c1 c2 lB a0 a11 a25 lD
   obtain ⟨c0, c1, c2, lB⟩ := HSw6.out.ins
   obtain ⟨a0, a11, a25, lD⟩ := HAw6.out
   go_wp2_with fail
   refine (HSw6.out.set HH.out.tab hcap (by (try simp only [List.length_set]); omega) nmError (3) (true) othK.e29 (by omega)).mono ?_
   rintro e w7 ⟨rfl, hbt, hrw⟩
   have HSw7 := Lib.hid (HSw6.out.next hbt hrw)
   have HAw7 := Lib.hid (HAw6.out.next hbt hDg)
   clear hbt hrw c0 c1 c2 lB a0 a11 a25 lD
   obtain ⟨c0, c1, c2, lB⟩ := HSw7.out.ins
   obtain ⟨a0, a11, a25, lD⟩ := HAw7.out
   go_wp2_with fail
   refine (HSw7.out.inner HH.out.tab hcap 0 4 othK.i29 (by omega)).mono ?_
   rintro e w8 ⟨rfl, hbi⟩
   have HSw8 := Lib.hid (HSw7.out.below hbi)
   have HAw8 := Lib.hid (HAw7.out.next (But.of_below hbi) hDg)
   clear hbi c0 c1 c2 lB a0 a11 a25 lD
   obtain ⟨c0, c1, c2, lB⟩ := HSw8.out.ins
   obtain ⟨a0, a11, a25, lD⟩ := HAw8.out
   obtain ⟨z6, hz6⟩ : ∃ z, ((zs.set (off + 2) 0).set (off + 3) 1)[off + (4 + 0)]? = some z := ⟨_, List.getElem?_eq_getElem (by simp only [List.length_set]; omega)⟩
   have cz : w8.cell? ⟨g, off + (4 + 0), none⟩ = some (.int .i64 z6) := HSw8.out.row.cell _ _ hz6
   have cf : w8.frozen? ⟨g, off + (4 + 0), none⟩ = false := HSw8.out.row.free _
   have lgi : g < w8.heap.size := HSw8.out.row.lt
   clear hz6
   have HPUT := Lib.hid (HSw8.out.put (off + (4 + 0)) 1)
   go_wp2
   refine bodyPost_end (results_none rfl _ _ _) rfl ⟨rfl, HPUT.out.but, ?_⟩
   rw [HEQ.out]
   exact HPUT.out.row
  ·have u7 : (st == 7) = false := by simp [h7]
   have u7n : (st != 7) = true := by simp [h7]
   have HEQ : Hid (looksP 29 off (some x) zs = ((zs.set (off + 2) 1).set (off + 3) 0).set (off + 4) 1) := Lib.hid (by rw [HEQ.out, if_pos H2.out, decide_eq_true h7, decide_eq_false h7]; rfl)
   clear h7
   go_wp2_with fail
   clear cz lgi
   refine (HSw5.out.set HH.out.tab hcap (by (try simp only [List.length_set]); omega) nmDone (2) (true) othK.d29 (by omega)).mono ?_
   rintro e w6 ⟨rfl, hbt, hrw⟩
   have HSw6 := Lib.hid (HSw5.out.next hbt hrw)
   have HAw6 := Lib.hid (HAw5.out.next hbt hDg)
   clear hbt hrw c0 c1 c2 lB a0 a11 a25 lD
   obtain ⟨c0, c1, c2, lB⟩ := HSw6.out.ins
   obtain ⟨a0, a11, a25, lD⟩ := HAw6.out
   go_wp2_with fail
   refine (HSw6.out.set HH.out.tab hcap (by (try simp only [List.length_set]); omega) nmError (3) (false) othK.e29 (by omega)).mono ?_
   rintro e w7 ⟨rfl, hbt, hrw⟩
   have HSw7 := Lib.hid (HSw6.out.next hbt hrw)
   have HAw7 := Lib.hid (HAw6.out.next hbt hDg)
   clear hbt hrw c0 c1 c2 lB a0 a11 a25 lD
   obtain ⟨c0, c1, c2, lB⟩ := HSw7.out.ins
   obtain ⟨a0, a11, a25, lD⟩ := HAw7.out
   go_wp2_with fail
   refine (HSw7.out.inner HH.out.tab hcap 0 4 othK.i29 (by omega)).mono ?_
   rintro e w8 ⟨rfl, hbi⟩
   have HSw8 := Lib.hid (HSw7.out.below hbi)
   have HAw8 := Lib.hid (HAw7.out.next (But.of_below hbi) hDg)
   clear hbi c0 c1 c2 lB a0 a11 a25 lD
   obtain ⟨c0, c1, c2, lB⟩ := HSw8.out.ins
   obtain ⟨a0, a11, a25, lD⟩ := HAw8.out
   obtain ⟨z6, hz6⟩ : ∃ z, ((zs.set (off + 2) 1).set (off + 3) 0)[off + (4 + 0)]? = some z := ⟨_, List.getElem?_eq_getElem (by simp only [List.length_set]; omega)⟩
   have cz : w8.cell? ⟨g, off + (4 + 0), none⟩ = some (.int .i64 z6) := HSw8.out.row.cell _ _ hz6
   have cf : w8.frozen? ⟨g, off + (4 + 0), none⟩ = false := HSw8.out.row.free _
   have lgi : g < w8.heap.size := HSw8.out.row.lt
   clear hz6
   have HPUT := Lib.hid (HSw8.out.put (off + (4 + 0)) 1)
   go_wp2
   refine bodyPost_end (results_none rfl _ _ _) rfl ⟨rfl, HPUT.out.but, ?_⟩
   rw [HEQ.out]
   exact HPUT.out.row
 ·have u2 : (z4 == 2) = false := by simp [h2]
  have HEQ : Hid (looksP 29 off (some x) zs = zs) := Lib.hid (by rw [HEQ.out, if_neg h2])
  go_wp2
  refine bodyPost_end (results_none rfl _ _ _) rfl ⟨rfl, HSw5.out.but, ?_⟩
  rw [HEQ.out]
  exact HSw5.out.row

set_option maxRecDepth 100000 in
set_option maxHeartbeats 2000000 in
theorem blook0s (i kind : Int) (g off n c : Nat) (zs : List Int) (xs : List AxS) (A : Option Addr) (cap : Nat) (z0 : Int) (x : AxS) (w0 w : World) (h : LookIn i kind g off n c zs xs A cap w0 w) (hz0 : zs[off]? = some z0) (hx : axP xs z0 = some x) (hk : kind ≠ 20 ∧ kind ≠ 27 ∧ kind ≠ 28 ∧ kind ≠ 29) :
  Calls Tryd.prog 27 #[insV i kind (some ⟨g, off, none⟩) n c, .slice A xs.length cap] w fun e w' => e = .returned (.tuple #[]) ∧ But g w w' ∧ Row w' g (looksP kind off (some x) zs) := by
 show Calls Tryd.prog 27 #[.agg #[.int .i64 i, .int .i64 kind, .slice (some ⟨g, off, none⟩) n c], .slice A xs.length cap] w _
 have HEQ : Hid (looksP kind off (some x) zs = zs) := Lib.hid (by unfold looksP; rw [if_neg (by omega), if_neg (by omega), if_neg (by omega), if_neg (by omega)])
 have u20 : (kind == 20) = false := by simp; omega
 have u27 : (kind == 27) = false := by simp; omega
 have u28 : (kind == 28) = false := by simp; omega
 have u29 : (kind == 29) = false := by simp; omega
 clear hk
 have HH := Lib.hid h
 have hcap := h.room
 have hlen := h.len
 have hn0 := h.cnt
 have hfew := h.few
 have hac1 := h.axes.1
 have hac2 := h.axes.2.1
 have HZ0 := Lib.hid hz0
 obtain ⟨m, hm⟩ : ∃ m, xs.length = m := ⟨_, rfl⟩
 have hz1 : 0 ≤ z0 ∧ z0 < xs.length := by
  unfold axP at hx
  by_cases hq : 0 ≤ z0 ∧ z0 < xs.length
  ·exact hq
  ·rw [if_neg hq] at hx; cases hx
 obtain ⟨k0, rfl⟩ : ∃ k0 : Nat, z0 = k0 := ⟨z0.toNat, by omega⟩
 have HXK : Hid (xs[k0]? = some x) := Lib.hid (by unfold axP at hx; rw [if_pos hz1] at hx; simpa using hx)
 rw [hm] at hz1
 have HOK : Hid (axOk (k0 : Int) (m : Int) = true) := Lib.hid (by unfold axOk; rw [decide_eq_true hz1.1, decide_eq_true hz1.2]; rfl)
 have hax : axN (k0 : Int) = (k0 : Int) := by unfold axN; omega
 have hk04 : (0 : Int) ≤ (k0 : Int) ∧ (k0 : Int) < (m : Int) := hz1
 rw [hm] at hac1 hfew ⊢
 have HM := Lib.hid hm
 clear h hz0 hm hx
 go_enter Tryd.func27, Tryd.ntmps27
 go_upto_region 1 with (fail)
 refine wp_name fun W hW => ?_
 obtain ⟨B, hB⟩ : ∃ B, B = w.heap.size := ⟨_, rfl⟩
 have HSW : Hid (InS w0 w W B i kind g off n c zs) := Lib.hid (by rw [hB]; exact InS.start HH.out.old HH.out.low HH.out.row (by rw [hW.out]; exact heap_alloc_new _ _) (by rw [hW.out]; exact belowBy))
 (try rw [← hB])
 clear hW hB
 obtain ⟨c0, c1, c2, lB⟩ := HSW.out.ins
 go_wp2_with fail
 refine (baxis_at i kind g off n c zs (k0 : Int) (m : Int) W (HH.out.tab.on HSW.out.old) HSW.out.row HH.out.axis hn0 hcap HZ0.out).mono ?_
 rintro e w1 ⟨rfl, hb1⟩
 have HS1 := Lib.hid (HSW.out.below hb1)
 clear hb1 c0 c1 c2 lB
 obtain ⟨c0, c1, c2, lB⟩ := HS1.out.ins
 rw [HOK.out]
 go_upto_region 3 with (refine wpList_store_new rfl 111 _ _ rfl w1 _ axZ rfl rfl rfl ax_size rfl axZ_one ?_)
 refine wp_name fun W3 hW3 => ?_
 obtain ⟨D, hD⟩ : ∃ D, D = w1.heap.size := ⟨_, rfl⟩
 have hh : W3.heap[D]? = some (.cells axZ 111) := by rw [hW3.out, hD]; exact heap_alloc_new _ _
 have HS3 := Lib.hid (HS1.out.below (show Below w1.heap.size w1 W3 by rw [hW3.out]; exact belowBy))
 have hDg : D ≠ g := fun e => by have := HS1.out.row.lt; omega
 have HH3 := Lib.hid hh
 have HDW : Hid (w.heap.size ≤ D) := Lib.hid (by have := HS1.out.but.size; omega)
 have HDB : Hid (D ≠ B) := Lib.hid (by omega)
 have HD0 : Hid (w0.heap.size ≤ D) := Lib.hid (by have := HS1.out.old.size; omega)
 rw [← hD]
 (try simp only [Act.put])
 clear hW3 hD c0 c1 c2 lB
 obtain ⟨bx, ox, x, hA, hbx, hx, hok, hrng⟩ := RowX.at (HH.out.axes.below HS3.out.old) (i := k0) (by rw [HM.out]; omega)
 have HRX := Lib.hid hrng
 have HOX := Lib.hid hok
 have hxe : xs[k0]? = some x := hx
 rw [HXK.out] at hxe
 cases hxe
 have HSZ1 : Hid ((Tryd.prog.info? 111).map (·.size) = some x.cells.length) := Lib.hid (by rw [HOX.out.len]; exact ax_size)
 have HSZ2 : Hid ((Tryd.prog.info? 111).map (·.size) = some x.cells.toArray.size) := Lib.hid (by rw [List.size_toArray, HOX.out.len]; exact ax_size)
 have HSZ3 : Hid (axZ.size = x.cells.toArray.size) := Lib.hid (by have := HOX.out.len; simp [axZ, this])
 clear hx hok hrng
 subst hA
 go_upto_region 5 with (first | refine wpList_load_mid rfl 111 _ rfl bx (ox + k0 * 26) rfl x.cells _ HRX.out Tryd.underlying111 rfl HSZ1.out ?_ | refine wpList_store_row rfl 111 _ _ rfl D x.cells.toArray rfl rfl 111 _ HH3.out HSZ2.out HSZ3.out HOX.out.one ?_)
 refine wp_name fun W4 hW4 => ?_
 have hh4 : W4.heap[D]? = some (.cells x.cells.toArray 111) := by rw [hW4.out]; exact setRow_heap _ _ _ _ _ _ HH3.out
 have HA4 : Hid (AxV W4 D x.st x.vel x.ins) := Lib.hid ⟨heap_cell 0 _ hh4 (by rw [List.getElem?_toArray]; exact HOX.out.c0), heap_cell 11 _ hh4 (by rw [List.getElem?_toArray]; exact HOX.out.c11), heap_cell 25 _ hh4 (by rw [List.getElem?_toArray]; exact HOX.out.c25), (Array.getElem?_eq_some_iff.1 hh4).1⟩
 have HS4 : Hid (InS w0 w W4 B i kind g off n c zs) := Lib.hid (by rw [hW4.out]; exact HS3.out.setRow HDW.out hDg HDB.out HD0.out _)
 clear hW4 hh4
 clear HH3 HS3 HS1 HSW
 obtain ⟨c0, c1, c2, lB⟩ := HS4.out.ins
 obtain ⟨a0, a11, a25, lD⟩ := HA4.out
 go_wp2
 refine bodyPost_end (results_none rfl _ _ _) rfl ⟨rfl, HS4.out.but, ?_⟩
 rw [HEQ.out]
 exact HS4.out.row

set_option maxRecDepth 100000 in
set_option maxHeartbeats 2000000 in
theorem blook20n (i kind : Int) (g off n c : Nat) (zs : List Int) (xs : List AxS) (A : Option Addr) (cap : Nat) (z0 : Int) (w0 w : World) (h : LookIn i kind g off n c zs xs A cap w0 w) (hz0 : zs[off]? = some z0) (hx : axP xs z0 = none) (hk : kind = 20) (hn : n = 4) :
  Calls Tryd.prog 27 #[insV i kind (some ⟨g, off, none⟩) n c, .slice A xs.length cap] w fun e w' => e = .returned (.tuple #[]) ∧ But g w w' ∧ Row w' g (looksP kind off none zs) := by
 show Calls Tryd.prog 27 #[.agg #[.int .i64 i, .int .i64 kind, .slice (some ⟨g, off, none⟩) n c], .slice A xs.length cap] w _
 obtain rfl : kind = 20 := hk
 obtain rfl : n = 4 := hn
 have HEQ : Hid (looksP 20 off none zs = (zs.set (off + 2) (b01 (false && decide ((7 : Int) ≠ 0)))).set (off + 3) (b01 (decide (7 = 7)))) := Lib.hid (by unfold looksP; rw [if_pos rfl]; rfl)
 have HH := Lib.hid h
 have hcap := h.room
 have hlen := h.len
 have hn0 := h.cnt
 have hfew := h.few
 have hac1 := h.axes.1
 have hac2 := h.axes.2.1
 have HZ0 := Lib.hid hz0
 obtain ⟨m, hm⟩ : ∃ m, xs.length = m := ⟨_, rfl⟩
 have HOK : Hid (axOk z0 (m : Int) = false) := Lib.hid (by
  unfold axOk
  by_cases hq : 0 ≤ z0
  ·rw [decide_eq_true hq, decide_eq_false (fun h2 => by unfold axP at hx; rw [if_pos ⟨hq, by rw [hm]; exact h2⟩] at hx; have := (List.getElem?_eq_none_iff.1 hx); omega)]; rfl
  ·rw [decide_eq_false hq]; rfl)
 rw [hm] at hac1 hfew ⊢
 have HM := Lib.hid hm
 clear h hz0 hm hx
 go_enter Tryd.func27, Tryd.ntmps27
 go_upto_region 1 with (fail)
 refine wp_name fun W hW => ?_
 obtain ⟨B, hB⟩ : ∃ B, B = w.heap.size := ⟨_, rfl⟩
 have HSW : Hid (InS w0 w W B i 20 g off 4 c zs) := Lib.hid (by rw [hB]; exact InS.start HH.out.old HH.out.low HH.out.row (by rw [hW.out]; exact heap_alloc_new _ _) (by rw [hW.out]; exact belowBy))
 (try rw [← hB])
 clear hW hB
 obtain ⟨c0, c1, c2, lB⟩ := HSW.out.ins
 go_wp2_with fail
 refine (baxis_at i 20 g off 4 c zs z0 (m : Int) W (HH.out.tab.on HSW.out.old) HSW.out.row HH.out.axis hn0 hcap HZ0.out).mono ?_
 rintro e w1 ⟨rfl, hb1⟩
 have HS1 := Lib.hid (HSW.out.below hb1)
 clear hb1 c0 c1 c2 lB
 obtain ⟨c0, c1, c2, lB⟩ := HS1.out.ins
 rw [HOK.out]
 go_upto_region 3 with (refine wpList_store_new rfl 111 _ _ rfl w1 _ axZ rfl rfl rfl ax_size rfl axZ_one ?_)
 refine wp_name fun W3 hW3 => ?_
 obtain ⟨D, hD⟩ : ∃ D, D = w1.heap.size := ⟨_, rfl⟩
 have hh : W3.heap[D]? = some (.cells axZ 111) := by rw [hW3.out, hD]; exact heap_alloc_new _ _
 have HS3 := Lib.hid (HS1.out.below (show Below w1.heap.size w1 W3 by rw [hW3.out]; exact belowBy))
 have hDg : D ≠ g := fun e => by have := HS1.out.row.lt; omega
 have HH3 := Lib.hid hh
 have HDW : Hid (w.heap.size ≤ D) := Lib.hid (by have := HS1.out.but.size; omega)
 have HDB : Hid (D ≠ B) := Lib.hid (by omega)
 have HD0 : Hid (w0.heap.size ≤ D) := Lib.hid (by have := HS1.out.old.size; omega)
 rw [← hD]
 (try simp only [Act.put])
 clear hW3 hD c0 c1 c2 lB
 have HA4 : Hid (AxV W3 D 7 0 false) := Lib.hid ⟨heap_cell 0 _ HH3.out rfl, heap_cell 11 _ HH3.out rfl, heap_cell 25 _ HH3.out rfl, (Array.getElem?_eq_some_iff.1 HH3.out).1⟩
 have HS4 := HS3
 obtain ⟨W4, rfl⟩ : ∃ W : World, W = W3 := ⟨_, rfl⟩
 clear HH3 HS3 HS1 HSW
 obtain ⟨c0, c1, c2, lB⟩ := HS4.out.ins
 obtain ⟨a0, a11, a25, lD⟩ := HA4.out
 have HSW4 := HS4
 have HAW4 := HA4
 have HEQ : Hid (looksP 20 off none zs = (zs.set (off + 2) 0).set (off + 3) 1) := Lib.hid (by rw [HEQ.out]; rfl)
 go_wp2_with fail
 refine (HSW4.out.set HH.out.tab hcap (by (try simp only [List.length_set]); omega) nmStatus (2) (false) othK.s20 (by omega)).mono ?_
 rintro e w5 ⟨rfl, hbt, hrw⟩
 have HSw5 := Lib.hid (HSW4.out.next hbt hrw)
 have HAw5 := Lib.hid (HAW4.out.next hbt hDg)
 clear hbt hrw c0 c1 c2 lB a0 a11 a25 lD
 obtain ⟨c0, c1, c2, lB⟩ := HSw5.out.ins
 obtain ⟨a0, a11, a25, lD⟩ := HAw5.out
 go_wp2_with fail
 refine (HSw5.out.set HH.out.tab hcap (by (try simp only [List.length_set]); omega) nmError (3) (true) othK.e20 (by omega)).mono ?_
 rintro e w6 ⟨rfl, hbt, hrw⟩
 have HSw6 := Lib.hid (HSw5.out.next hbt hrw)
 have HAw6 := Lib.hid (HAw5.out.next hbt hDg)
 clear hbt hrw c0 c1 c2 lB a0 a11 a25 lD
 obtain ⟨c0, c1, c2, lB⟩ := HSw6.out.ins
 obtain ⟨a0, a11, a25, lD⟩ := HAw6.out
 go_wp2
 refine bodyPost_end (results_none rfl _ _ _) rfl ⟨rfl, HSw6.out.but, ?_⟩
 rw [HEQ.out]
 first | exact HSw6.out.row | (have hrow := HSw6.out.row; simpa using hrow)

set_option maxRecDepth 100000 in
set_option maxHeartbeats 2000000 in
theorem blook27n (i kind : Int) (g off n c : Nat) (zs : List Int) (xs : List AxS) (A : Option Addr) (cap : Nat) (z0 : Int) (w0 w : World) (h : LookIn i kind g off n c zs xs A cap w0 w) (hz0 : zs[off]? = some z0) (hx : axP xs z0 = none) (hk : kind = 27) (hn : n = outsN 27 + 7) :
  Calls Tryd.prog 27 #[insV i kind (some ⟨g, off, none⟩) n c, .slice A xs.length cap] w fun e w' => e = .returned (.tuple #[]) ∧ But g w w' ∧ Row w' g (looksP kind off none zs) := by
 show Calls Tryd.prog 27 #[.agg #[.int .i64 i, .int .i64 kind, .slice (some ⟨g, off, none⟩) n c], .slice A xs.length cap] w _
 obtain rfl : kind = 27 := hk
 obtain rfl : n = outsN 27 + 7 := hn
 have HK := Lib.hid (cmdK (kind := 27) (by omega))
 have HEQ : Hid (looksP 27 off none zs = zs.set (off + outsN 27) 0) := Lib.hid (by unfold looksP; rw [if_neg (by decide), if_pos rfl]; rfl)
 have HH := Lib.hid h
 have hcap := h.room
 have hlen := h.len
 have hn0 := h.cnt
 have hfew := h.few
 have hac1 := h.axes.1
 have hac2 := h.axes.2.1
 have HZ0 := Lib.hid hz0
 obtain ⟨m, hm⟩ : ∃ m, xs.length = m := ⟨_, rfl⟩
 have HOK : Hid (axOk z0 (m : Int) = false) := Lib.hid (by
  unfold axOk
  by_cases hq : 0 ≤ z0
  ·rw [decide_eq_true hq, decide_eq_false (fun h2 => by unfold axP at hx; rw [if_pos ⟨hq, by rw [hm]; exact h2⟩] at hx; have := (List.getElem?_eq_none_iff.1 hx); omega)]; rfl
  ·rw [decide_eq_false hq]; rfl)
 rw [hm] at hac1 hfew ⊢
 have HM := Lib.hid hm
 clear h hz0 hm hx
 go_enter Tryd.func27, Tryd.ntmps27
 go_upto_region 1 with (fail)
 refine wp_name fun W hW => ?_
 obtain ⟨B, hB⟩ : ∃ B, B = w.heap.size := ⟨_, rfl⟩
 have HSW : Hid (InS w0 w W B i 27 g off (outsN 27 + 7) c zs) := Lib.hid (by rw [hB]; exact InS.start HH.out.old HH.out.low HH.out.row (by rw [hW.out]; exact heap_alloc_new _ _) (by rw [hW.out]; exact belowBy))
 (try rw [← hB])
 clear hW hB
 obtain ⟨c0, c1, c2, lB⟩ := HSW.out.ins
 go_wp2_with fail
 refine (baxis_at i 27 g off (outsN 27 + 7) c zs z0 (m : Int) W (HH.out.tab.on HSW.out.old) HSW.out.row HH.out.axis hn0 hcap HZ0.out).mono ?_
 rintro e w1 ⟨rfl, hb1⟩
 have HS1 := Lib.hid (HSW.out.below hb1)
 clear hb1 c0 c1 c2 lB
 obtain ⟨c0, c1, c2, lB⟩ := HS1.out.ins
 rw [HOK.out]
 go_upto_region 3 with (refine wpList_store_new rfl 111 _ _ rfl w1 _ axZ rfl rfl rfl ax_size rfl axZ_one ?_)
 refine wp_name fun W3 hW3 => ?_
 obtain ⟨D, hD⟩ : ∃ D, D = w1.heap.size := ⟨_, rfl⟩
 have hh : W3.heap[D]? = some (.cells axZ 111) := by rw [hW3.out, hD]; exact heap_alloc_new _ _
 have HS3 := Lib.hid (HS1.out.below (show Below w1.heap.size w1 W3 by rw [hW3.out]; exact belowBy))
 have hDg : D ≠ g := fun e => by have := HS1.out.row.lt; omega
 have HH3 := Lib.hid hh
 have HDW : Hid (w.heap.size ≤ D) := Lib.hid (by have := HS1.out.but.size; omega)
 have HDB : Hid (D ≠ B) := Lib.hid (by omega)
 have HD0 : Hid (w0.heap.size ≤ D) := Lib.hid (by have := HS1.out.old.size; omega)
 rw [← hD]
 (try simp only [Act.put])
 clear hW3 hD c0 c1 c2 lB
 have HA4 : Hid (AxV W3 D 7 0 false) := Lib.hid ⟨heap_cell 0 _ HH3.out rfl, heap_cell 11 _ HH3.out rfl, heap_cell 25 _ HH3.out rfl, (Array.getElem?_eq_some_iff.1 HH3.out).1⟩
 have HS4 := HS3
 obtain ⟨W4, rfl⟩ : ∃ W : World, W = W3 := ⟨_, rfl⟩
 clear HH3 HS3 HS1 HSW
 obtain ⟨c0, c1, c2, lB⟩ := HS4.out.ins
 obtain ⟨a0, a11, a25, lD⟩ := HA4.out
 have HSW4 := HS4
 have HAW4 := HA4
 go_wp2_with fail
 refine wp_region_ext_tail 15 (by kernel_rfl) (by kernel_rfl) ?_
 simp only [List.take_succ_cons, List.take_zero, List.drop_succ_cons, List.drop_zero]
 repeat (go_big_quiet_step (fail))
 refine wpQuiet_nil ?_
 intro w2 hb2
 replace hb2 := ext_below hb2
 have HSw2 := Lib.hid (HSW4.out.below hb2)
 have HAw2 := Lib.hid (HAW4.out.next (But.of_below hb2) hDg)
 clear hb2 c0 c1 c2 lB a0 a11 a25 lD
 obtain ⟨c0, c1, c2, lB⟩ := HSw2.out.ins
 obtain ⟨a0, a11, a25, lD⟩ := HAw2.out
 go_wp2_with fail
 refine (HSw2.out.set HH.out.tab hcap (by (try simp only [List.length_set]); omega) nmInVel (outsN 27) (false) (show px 27 nmInVel = some (outsN 27) from HK.out.first) (by omega)).mono ?_
 rintro e w5 ⟨rfl, hbt, hrw⟩
 have HSw5 := Lib.hid (HSw2.out.next hbt hrw)
 have HAw5 := Lib.hid (HAw2.out.next hbt hDg)
 clear hbt hrw c0 c1 c2 lB a0 a11 a25 lD
 obtain ⟨c0, c1, c2, lB⟩ := HSw5.out.ins
 obtain ⟨a0, a11, a25, lD⟩ := HAw5.out
 go_wp2
 refine bodyPost_end (results_none rfl _ _ _) rfl ⟨rfl, HSw5.out.but, ?_⟩
 rw [HEQ.out]
 first | exact HSw5.out.row | (have hrow := HSw5.out.row; simpa using hrow)

set_option maxRecDepth 100000 in
set_option maxHeartbeats 2000000 in
theorem blook28n (i kind : Int) (g off n c : Nat) (zs : List Int) (xs : List AxS) (A : Option Addr) (cap : Nat) (z0 : Int) (w0 w : World) (h : LookIn i kind g off n c zs xs A cap w0 w) (hz0 : zs[off]? = some z0) (hx : axP xs z0 = none) (hk : kind = 28) (hn : n = outsN 28 + 7) :
  Calls Tryd.prog 27 #[insV i kind (some ⟨g, off, none⟩) n c, .slice A xs.length cap] w fun e w' => e = .returned (.tuple #[]) ∧ But g w w' ∧ Row w' g (looksP kind off none zs) := by
 show Calls Tryd.prog 27 #[.agg #[.int .i64 i, .int .i64 kind, .slice (some ⟨g, off, none⟩) n c], .slice A xs.length cap] w _
 obtain rfl : kind = 28 := hk
 obtain rfl : n = outsN 28 + 7 := hn
 have HK := Lib.hid (cmdK (kind := 28) (by omega))
 have HEQ : Hid (looksP 28 off none zs = zs.set (off + outsN 28) 0) := Lib.hid (by unfold looksP; rw [if_neg (by decide), if_neg (by decide), if_pos rfl]; rfl)
 have HH := Lib.hid h
 have hcap := h.room
 have hlen := h.len
 have hn0 := h.cnt
 have hfew := h.few
 have hac1 := h.axes.1
 have hac2 := h.axes.2.1
 have HZ0 := Lib.hid hz0
 obtain ⟨m, hm⟩ : ∃ m, xs.length = m := ⟨_, rfl⟩
 have HOK : Hid (axOk z0 (m : Int) = false) := Lib.hid (by
  unfold axOk
  by_cases hq : 0 ≤ z0
  ·rw [decide_eq_true hq, decide_eq_false (fun h2 => by unfold axP at hx; rw [if_pos ⟨hq, by rw [hm]; exact h2⟩] at hx; have := (List.getElem?_eq_none_iff.1 hx); omega)]; rfl
  ·rw [decide_eq_false hq]; rfl)
 rw [hm] at hac1 hfew ⊢
 have HM := Lib.hid hm
 clear h hz0 hm hx
 go_enter Tryd.func27, Tryd.ntmps27
 go_upto_region 1 with (fail)
 refine wp_name fun W hW => ?_
 obtain ⟨B, hB⟩ : ∃ B, B = w.heap.size := ⟨_, rfl⟩
 have HSW : Hid (InS w0 w W B i 28 g off (outsN 28 + 7) c zs) := Lib.hid (by rw [hB]; exact InS.start HH.out.old HH.out.low HH.out.row (by rw [hW.out]; exact heap_alloc_new _ _) (by rw [hW.out]; exact belowBy))
 (try rw [← hB])
 clear hW hB
 obtain ⟨c0, c1, c2, lB⟩ := HSW.out.ins
 go_wp2_with fail
 refine (baxis_at i 28 g off (outsN 28 + 7) c zs z0 (m : Int) W (HH.out.tab.on HSW.out.old) HSW.out.row HH.out.axis hn0 hcap HZ0.out).mono ?_
 rintro e w1 ⟨rfl, hb1⟩
 have HS1 := Lib.hid (HSW.out.below hb1)
 clear hb1 c0 c1 c2 lB
 obtain ⟨c0, c1, c2, lB⟩ := HS1.out.ins
 rw [HOK.out]
 go_upto_region 3 with (refine wpList_store_new rfl 111 _ _ rfl w1 _ axZ rfl rfl rfl ax_size rfl axZ_one ?_)
 refine wp_name fun W3 hW3 => ?_
 obtain ⟨D, hD⟩ : ∃ D, D = w1.heap.size := ⟨_, rfl⟩
 have hh : W3.heap[D]? = some (.cells axZ 111) := by rw [hW3.out, hD]; exact heap_alloc_new _ _
 have HS3 := Lib.hid (HS1.out.below (show Below w1.heap.size w1 W3 by rw [hW3.out]; exact belowBy))
 have hDg : D ≠ g := fun e => by have := HS1.out.row.lt; omega
 have HH3 := Lib.hid hh
 have HDW : Hid (w.heap.size ≤ D) := Lib.hid (by have := HS1.out.but.size; omega)
 have HDB : Hid (D ≠ B) := Lib.hid (by omega)
 have HD0 : Hid (w0.heap.size ≤ D) := Lib.hid (by have := HS1.out.old.size; omega)
 rw [← hD]
 (try simp only [Act.put])
 clear hW3 hD c0 c1 c2 lB
 have HA4 : Hid (AxV W3 D 7 0 false) := Lib.hid ⟨heap_cell 0 _ HH3.out rfl, heap_cell 11 _ HH3.out rfl, heap_cell 25 _ HH3.out rfl, (Array.getElem?_eq_some_iff.1 HH3.out).1⟩
 have HS4 := HS3
 obtain ⟨W4, rfl⟩ : ∃ W : World, W = W3 := ⟨_, rfl⟩
 clear HH3 HS3 HS1 HSW
 obtain ⟨c0, c1, c2, lB⟩ := HS4.out.ins
 obtain ⟨a0, a11, a25, lD⟩ := HA4.out
 have HSW4 := HS4
 have HAW4 := HA4
 go_wp2_with fail
 refine wp_region_ext_tail 11 (by kernel_rfl) (by kernel_rfl) ?_
 simp only [List.take_succ_cons, List.take_zero, List.drop_succ_cons, List.drop_zero]
 repeat (go_big_quiet_step (fail))
 refine wpQuiet_nil ?_
 intro w2 hb2
 replace hb2 := ext_below hb2
 have HSw2 := Lib.hid (HSW4.out.below hb2)
 have HAw2 := Lib.hid (HAW4.out.next (But.of_below hb2) hDg)
 clear hb2 c0 c1 c2 lB a0 a11 a25 lD
 obtain ⟨c0, c1, c2, lB⟩ := HSw2.out.ins
 obtain ⟨a0, a11, a25, lD⟩ := HAw2.out
 go_wp2_with fail
 refine (HSw2.out.set HH.out.tab hcap (by (try simp only [List.length_set]); omega) nmInGear (outsN 28) (false) (show px 28 nmInGear = some (outsN 28) from HK.out.first) (by omega)).mono ?_
 rintro e w5 ⟨rfl, hbt, hrw⟩
 have HSw5 := Lib.hid (HSw2.out.next hbt hrw)
 have HAw5 := Lib.hid (HAw2.out.next hbt hDg)
 clear hbt hrw c0 c1 c2 lB a0 a11 a25 lD
 obtain ⟨c0, c1, c2, lB⟩ := HSw5.out.ins
 obtain ⟨a0, a11, a25, lD⟩ := HAw5.out
 go_wp2
 refine bodyPost_end (results_none rfl _ _ _) rfl ⟨rfl, HSw5.out.but, ?_⟩
 rw [HEQ.out]
 first | exact HSw5.out.row | (have hrow := HSw5.out.row; simpa using hrow)

set_option maxRecDepth 100000 in
set_option maxHeartbeats 2000000 in
theorem blook29n (i kind : Int) (g off n c : Nat) (zs : List Int) (xs : List AxS) (A : Option Addr) (cap : Nat) (z0 : Int) (w0 w : World) (h : LookIn i kind g off n c zs xs A cap w0 w) (hz0 : zs[off]? = some z0) (hx : axP xs z0 = none) (hk : kind = 29) (hn : n = 5) :
  Calls Tryd.prog 27 #[insV i kind (some ⟨g, off, none⟩) n c, .slice A xs.length cap] w fun e w' => e = .returned (.tuple #[]) ∧ But g w w' ∧ Row w' g (looksP kind off none zs) := by
 show Calls Tryd.prog 27 #[.agg #[.int .i64 i, .int .i64 kind, .slice (some ⟨g, off, none⟩) n c], .slice A xs.length cap] w _
 obtain rfl : kind = 29 := hk
 obtain rfl : n = 5 := hn
 have hlen0 := h.len
 obtain ⟨z4, hz4⟩ : ∃ z, zs[off + 4]? = some z := ⟨_, List.getElem?_eq_getElem (by omega)⟩
 have HEQ : Hid (looksP 29 off none zs = if z4 = 2 then ((zs.set (off + 2) (b01 (decide (7 ≠ 7)))).set (off + 3) (b01 (decide (7 = 7)))).set (off + 4) 1 else zs) := Lib.hid (by unfold looksP; rw [if_neg (by decide), if_neg (by decide), if_neg (by decide), if_pos rfl]; simp only [hz4, Option.getD_some, stP]; rfl)
 have HZ4 := Lib.hid hz4
 clear hz4 hlen0
 have HH := Lib.hid h
 have hcap := h.room
 have hlen := h.len
 have hn0 := h.cnt
 have hfew := h.few
 have hac1 := h.axes.1
 have hac2 := h.axes.2.1
 have HZ0 := Lib.hid hz0
 obtain ⟨m, hm⟩ : ∃ m, xs.length = m := ⟨_, rfl⟩
 have HOK : Hid (axOk z0 (m : Int) = false) := Lib.hid (by
  unfold axOk
  by_cases hq : 0 ≤ z0
  ·rw [decide_eq_true hq, decide_eq_false (fun h2 => by unfold axP at hx; rw [if_pos ⟨hq, by rw [hm]; exact h2⟩] at hx; have := (List.getElem?_eq_none_iff.1 hx); omega)]; rfl
  ·rw [decide_eq_false hq]; rfl)
 rw [hm] at hac1 hfew ⊢
 have HM := Lib.hid hm
 clear h hz0 hm hx
 go_enter Tryd.func27, Tryd.ntmps27
 go_upto_region 1 with (fail)
 refine wp_name fun W hW => ?_
 obtain ⟨B, hB⟩ : ∃ B, B = w.heap.size := ⟨_, rfl⟩
 have HSW : Hid (InS w0 w W B i 29 g off 5 c zs) := Lib.hid (by rw [hB]; exact InS.start HH.out.old HH.out.low HH.out.row (by rw [hW.out]; exact heap_alloc_new _ _) (by rw [hW.out]; exact belowBy))
 (try rw [← hB])
 clear hW hB
 obtain ⟨c0, c1, c2, lB⟩ := HSW.out.ins
 go_wp2_with fail
 refine (baxis_at i 29 g off 5 c zs z0 (m : Int) W (HH.out.tab.on HSW.out.old) HSW.out.row HH.out.axis hn0 hcap HZ0.out).mono ?_
 rintro e w1 ⟨rfl, hb1⟩
 have HS1 := Lib.hid (HSW.out.below hb1)
 clear hb1 c0 c1 c2 lB
 obtain ⟨c0, c1, c2, lB⟩ := HS1.out.ins
 rw [HOK.out]
 go_upto_region 3 with (refine wpList_store_new rfl 111 _ _ rfl w1 _ axZ rfl rfl rfl ax_size rfl axZ_one ?_)
 refine wp_name fun W3 hW3 => ?_
 obtain ⟨D, hD⟩ : ∃ D, D = w1.heap.size := ⟨_, rfl⟩
 have hh : W3.heap[D]? = some (.cells axZ 111) := by rw [hW3.out, hD]; exact heap_alloc_new _ _
 have HS3 := Lib.hid (HS1.out.below (show Below w1.heap.size w1 W3 by rw [hW3.out]; exact belowBy))
 have hDg : D ≠ g := fun e => by have := HS1.out.row.lt; omega
 have HH3 := Lib.hid hh
 have HDW : Hid (w.heap.size ≤ D) := Lib.hid (by have := HS1.out.but.size; omega)
 have HDB : Hid (D ≠ B) := Lib.hid (by omega)
 have HD0 : Hid (w0.heap.size ≤ D) := Lib.hid (by have := HS1.out.old.size; omega)
 rw [← hD]
 (try simp only [Act.put])
 clear hW3 hD c0 c1 c2 lB
 have HA4 : Hid (AxV W3 D 7 0 false) := Lib.hid ⟨heap_cell 0 _ HH3.out rfl, heap_cell 11 _ HH3.out rfl, heap_cell 25 _ HH3.out rfl, (Array.getElem?_eq_some_iff.1 HH3.out).1⟩
 have HS4 := HS3
 obtain ⟨W4, rfl⟩ : ∃ W : World, W = W3 := ⟨_, rfl⟩
 clear HH3 HS3 HS1 HSW
 obtain ⟨c0, c1, c2, lB⟩ := HS4.out.ins
 obtain ⟨a0, a11, a25, lD⟩ := HA4.out
 have HSW4 := HS4
 have HAW4 := HA4
 go_wp2_with fail
 refine (HSW4.out.inner HH.out.tab hcap 0 4 othK.i29 (by omega)).mono ?_
 rintro e w5 ⟨rfl, hbi⟩
 have HSw5 := Lib.hid (HSW4.out.below hbi)
 have HAw5 := Lib.hid (HAW4.out.next (But.of_below hbi) hDg)
 clear hbi c0 c1 c2 lB a0 a11 a25 lD
 obtain ⟨c0, c1, c2, lB⟩ := HSw5.out.ins
 obtain ⟨a0, a11, a25, lD⟩ := HAw5.out
 have cz : w5.cell? ⟨g, off + (4 + 0), none⟩ = some (.int .i64 z4) := HSw5.out.row.cell _ _ HZ4.out
 have lgi : g < w5.heap.size := HSw5.out.row.lt
 by_cases h2 : z4 = 2
 ·have u2 : (z4 == 2) = true := by simp [h2]
  have H2 := Lib.hid h2
  clear h2
  have HEQ : Hid (looksP 29 off none zs = ((zs.set (off + 2) 0).set (off + 3) 1).set (off + 4) 1) := Lib.hid (by rw [HEQ.out, if_pos H2.out]; rfl)
  go_wp2_with fail
  clear cz lgi
  refine (HSw5.out.set HH.out.tab hcap (by (try simp only [List.length_set]); omega) nmDone (2) (false) othK.d29 (by omega)).mono ?_
  rintro e w6 ⟨rfl, hbt, hrw⟩
  have HSw6 := Lib.hid (HSw5.out.next hbt hrw)
  have HAw6 := Lib.hid (HAw5.out.next hbt hDg)
  clear hbt hrw c0 c1 c2 lB a0 a11 a25 lD
  obtain ⟨c0, c1, c2, lB⟩ := HSw6.out.ins
  obtain ⟨a0, a11, a25, lD⟩ := HAw6.out
  go_wp2_with fail
  refine (HSw6.out.set HH.out.tab hcap (by (try simp only [List.length_set]); omega) nmError (3) (true) othK.e29 (by omega)).mono ?_
  rintro e w7 ⟨rfl, hbt, hrw⟩
  have HSw7 := Lib.hid (HSw6.out.next hbt hrw)
  have HAw7 := Lib.hid (HAw6.out.next hbt hDg)
  clear hbt hrw c0 c1 c2 lB a0 a11 a25 lD
  obtain ⟨c0, c1, c2, lB⟩ := HSw7.out.ins
  obtain ⟨a0, a11, a25, lD⟩ := HAw7.out
  go_wp2_with fail
  refine (HSw7.out.inner HH.out.tab hcap 0 4 othK.i29 (by omega)).mono ?_
  rintro e w8 ⟨rfl, hbi⟩
  have HSw8 := Lib.hid (HSw7.out.below hbi)
  have HAw8 := Lib.hid (HAw7.out.next (But.of_below hbi) hDg)
  clear hbi c0 c1 c2 lB a0 a11 a25 lD
  obtain ⟨c0, c1, c2, lB⟩ := HSw8.out.ins
  obtain ⟨a0, a11, a25, lD⟩ := HAw8.out
  obtain ⟨z6, hz6⟩ : ∃ z, ((zs.set (off + 2) 0).set (off + 3) 1)[off + (4 + 0)]? = some z := ⟨_, List.getElem?_eq_getElem (by simp only [List.length_set]; omega)⟩
  have cz : w8.cell? ⟨g, off + (4 + 0), none⟩ = some (.int .i64 z6) := HSw8.out.row.cell _ _ hz6
  have cf : w8.frozen? ⟨g, off + (4 + 0), none⟩ = false := HSw8.out.row.free _
  have lgi : g < w8.heap.size := HSw8.out.row.lt
  clear hz6
  have HPUT := Lib.hid (HSw8.out.put (off + (4 + 0)) 1)
  go_wp2
  refine bodyPost_end (results_none rfl _ _ _) rfl ⟨rfl, HPUT.out.but, ?_⟩
  rw [HEQ.out]
  exact HPUT.out.row
 ·have u2 : (z4 == 2) = false := by simp [h2]
  have HEQ : Hid (looksP 29 off none zs = zs) := Lib.hid (by rw [HEQ.out, if_neg h2])
  go_wp2
  refine bodyPost_end (results_none rfl _ _ _) rfl ⟨rfl, HSw5.out.but, ?_⟩
  rw [HEQ.out]
  exact HSw5.out.row

set_option maxRecDepth 100000 in
set_option maxHeartbeats 2000000 in
theorem blook0n (i kind : Int) (g off n c : Nat) (zs : List Int) (xs : List AxS) (A : Option Addr) (cap : Nat) (z0 : Int) (w0 w : World) (h : LookIn i kind g off n c zs xs A cap w0 w) (hz0 : zs[off]? = some z0) (hx : axP xs z0 = none) (hk : kind ≠ 20 ∧ kind ≠ 27 ∧ kind ≠ 28 ∧ kind ≠ 29) :
  Calls Tryd.prog 27 #[insV i kind (some ⟨g, off, none⟩) n c, .slice A xs.length cap] w fun e w' => e = .returned (.tuple #[]) ∧ But g w w' ∧ Row w' g (looksP kind off none zs) := by
 show Calls Tryd.prog 27 #[.agg #[.int .i64 i, .int .i64 kind, .slice (some ⟨g, off, none⟩) n c], .slice A xs.length cap] w _
 have HEQ : Hid (looksP kind off none zs = zs) := Lib.hid (by unfold looksP; rw [if_neg (by omega), if_neg (by omega), if_neg (by omega), if_neg (by omega)])
 have u20 : (kind == 20) = false := by simp; omega
 have u27 : (kind == 27) = false := by simp; omega
 have u28 : (kind == 28) = false := by simp; omega
 have u29 : (kind == 29) = false := by simp; omega
 clear hk
 have HH := Lib.hid h
 have hcap := h.room
 have hlen := h.len
 have hn0 := h.cnt
 have hfew := h.few
 have hac1 := h.axes.1
 have hac2 := h.axes.2.1
 have HZ0 := Lib.hid hz0
 obtain ⟨m, hm⟩ : ∃ m, xs.length = m := ⟨_, rfl⟩
 have HOK : Hid (axOk z0 (m : Int) = false) := Lib.hid (by
  unfold axOk
  by_cases hq : 0 ≤ z0
  ·rw [decide_eq_true hq, decide_eq_false (fun h2 => by unfold axP at hx; rw [if_pos ⟨hq, by rw [hm]; exact h2⟩] at hx; have := (List.getElem?_eq_none_iff.1 hx); omega)]; rfl
  ·rw [decide_eq_false hq]; rfl)
 rw [hm] at hac1 hfew ⊢
 have HM := Lib.hid hm
 clear h hz0 hm hx
 go_enter Tryd.func27, Tryd.ntmps27
 go_upto_region 1 with (fail)
 refine wp_name fun W hW => ?_
 obtain ⟨B, hB⟩ : ∃ B, B = w.heap.size := ⟨_, rfl⟩
 have HSW : Hid (InS w0 w W B i kind g off n c zs) := Lib.hid (by rw [hB]; exact InS.start HH.out.old HH.out.low HH.out.row (by rw [hW.out]; exact heap_alloc_new _ _) (by rw [hW.out]; exact belowBy))
 (try rw [← hB])
 clear hW hB
 obtain ⟨c0, c1, c2, lB⟩ := HSW.out.ins
 go_wp2_with fail
 refine (baxis_at i kind g off n c zs z0 (m : Int) W (HH.out.tab.on HSW.out.old) HSW.out.row HH.out.axis hn0 hcap HZ0.out).mono ?_
 rintro e w1 ⟨rfl, hb1⟩
 have HS1 := Lib.hid (HSW.out.below hb1)
 clear hb1 c0 c1 c2 lB
 obtain ⟨c0, c1, c2, lB⟩ := HS1.out.ins
 rw [HOK.out]
 go_upto_region 3 with (refine wpList_store_new rfl 111 _ _ rfl w1 _ axZ rfl rfl rfl ax_size rfl axZ_one ?_)
 refine wp_name fun W3 hW3 => ?_
 obtain ⟨D, hD⟩ : ∃ D, D = w1.heap.size := ⟨_, rfl⟩
 have hh : W3.heap[D]? = some (.cells axZ 111) := by rw [hW3.out, hD]; exact heap_alloc_new _ _
 have HS3 := Lib.hid (HS1.out.below (show Below w1.heap.size w1 W3 by rw [hW3.out]; exact belowBy))
 have hDg : D ≠ g := fun e => by have := HS1.out.row.lt; omega
 have HH3 := Lib.hid hh
 have HDW : Hid (w.heap.size ≤ D) := Lib.hid (by have := HS1.out.but.size; omega)
 have HDB : Hid (D ≠ B) := Lib.hid (by omega)
 have HD0 : Hid (w0.heap.size ≤ D) := Lib.hid (by have := HS1.out.old.size; omega)
 rw [← hD]
 (try simp only [Act.put])
 clear hW3 hD c0 c1 c2 lB
 have HA4 : Hid (AxV W3 D 7 0 false) := Lib.hid ⟨heap_cell 0 _ HH3.out rfl, heap_cell 11 _ HH3.out rfl, heap_cell 25 _ HH3.out rfl, (Array.getElem?_eq_some_iff.1 HH3.out).1⟩
 have HS4 := HS3
 obtain ⟨W4, rfl⟩ : ∃ W : World, W = W3 := ⟨_, rfl⟩
 clear HH3 HS3 HS1 HSW
 obtain ⟨c0, c1, c2, lB⟩ := HS4.out.ins
 obtain ⟨a0, a11, a25, lD⟩ := HA4.out
 go_wp2
 refine bodyPost_end (results_none rfl _ _ _) rfl ⟨rfl, HS4.out.but, ?_⟩
 rw [HEQ.out]
 exact HS4.out.row

end Go.Proofs.YtknnhnefbbjcdaaDoor
