/- Merged: Layer 27: a command block asks: does it rise, its outputs cleared, its command. Two operations that may come up in either order. Layer 27: an MC_Halt that rises asks: the fixed run. PRINTED by wip/tool/mkask.py -/
import Derived.Test.YtknnhnefbbjcdaaDoorM32
import Derived.Test.YtknnhnefbbjcdaaDoorTreeF
import Derived.Test.YtknnhnefbbjcdaaDoorHeld
import Derived.Deep.AppendLies
import Derived.Test.YtknnhnefbbjcdaaDoorM02
namespace Go.Proofs.YtknnhnefbbjcdaaDoor
open Go.RowKit
set_option linter.unusedVariables false
set_option linter.unusedSimpArgs false
attribute [local go_sem] ite_max ite_min vite_max vite_min ext_cell ext_frozen

set_option maxRecDepth 100000 in
set_option maxHeartbeats 2000000 in
theorem brises_at (i kind : Int) (g off n c e f : Nat) (zs : List Int) (z1 zf : Int) (w : World) (ht : Blanks w) (hr : Row w g zs) (hk : px kind nmExecute = some e) (hk2 : px kind ⟨#[]⟩ = some f) (he : e < n) (hf : f < n) (hnc : n ≤ c ∧ c ≤ 9223372036854775807) (h1 : zs[off + e]? = some z1) (h2 : zs[off + f]? = some zf) :
  Calls Tryd.prog 41 #[insV i kind (some ⟨g, off, none⟩) n c] w fun x w' => x = .returned (.bool (decide (z1 ≠ 0) && decide (zf = 0))) ∧ Below w.heap.size w w' := by
 have HG : Hid (∀ W, Below w.heap.size w W → Calls Tryd.prog 19 #[.agg #[.int .i64 i, .int .i64 kind, .slice (some ⟨g, off, none⟩) n c], .string ⟨#[69, 120, 101, 99, 117, 116, 101]⟩] W fun e w' => e = .returned (.int .i64 z1) ∧ Below W.heap.size W w') := Lib.hid (fun W hW => bget_at i kind g off n c zs nmExecute e z1 W (ht.on hW) (hr.below hW) hk he hnc h1)
 have HI : Hid (∀ W, Below w.heap.size w W → Calls Tryd.prog 25 #[.agg #[.int .i64 i, .int .i64 kind, .slice (some ⟨g, off, none⟩) n c], .int .i64 0] W fun e w' => e = .returned (.pointer (some ⟨g, off + f, none⟩)) ∧ Below W.heap.size W w') := Lib.hid (fun W hW => by have := binner_at i kind g off n c 0 f W (ht.on hW) hk2 (by omega) hnc; simp only [Nat.add_zero] at this; exact this)
 have HCF := Lib.hid (hr.cell (off + f) zf h2)
 have hgl := hr.lt
 show Calls Tryd.prog 41 #[.agg #[.int .i64 i, .int .i64 kind, .slice (some ⟨g, off, none⟩) n c]] w _
 obtain ⟨rb, hrb⟩ : ∃ r, (decide (z1 ≠ 0) && decide (zf = 0)) = r := ⟨_, rfl⟩
 have HRB := Lib.hid hrb
 rw [hrb]
 clear ht hr hk hk2 he hf h1 h2 hrb
 go_enter Tryd.func41, Tryd.ntmps41
 go_upto_region 1 with (fail)
 refine wp_name fun W hW => ?_
 obtain ⟨B, hB⟩ : ∃ B, B = w.heap.size := ⟨_, rfl⟩
 have HC : Hid (∀ W', Below W.heap.size W W' → W'.cell? ⟨B, 0, none⟩ = some (.int .i64 i) ∧ W'.cell? ⟨B, 1, none⟩ = some (.int .i64 kind) ∧ W'.cell? ⟨B, 2, none⟩ = some (.slice (some ⟨g, off, none⟩) n c) ∧ B < W'.heap.size) := Lib.hid (fun W' hW' => by
  have hl : B < W.heap.size := by rw [hW.out, hB]; simp
  refine ⟨(hW'.cell (p := ⟨B, 0, none⟩) hl).trans ?_, (hW'.cell (p := ⟨B, 1, none⟩) hl).trans ?_, (hW'.cell (p := ⟨B, 2, none⟩) hl).trans ?_, Nat.lt_of_lt_of_le hl hW'.size⟩
  all_goals (rw [hW.out, hB]; go_simp))
 have hbel : Below w.heap.size w W := by rw [hW.out]; exact belowBy
 have HB := Lib.hid hbel
 (try rw [← hB])
 clear hW hbel hB
 obtain ⟨c0, c1, c2, lB⟩ := HC.out W (Below.refl _ _)
 go_wp2_with fail
 refine (HG.out W HB.out).mono ?_
 rintro x w1 ⟨rfl, hb1⟩
 have HS1 := Lib.hid hb1
 have HB1 := Lib.hid (HB.out.trans (hb1.mono HB.out.size))
 clear hb1 HB c0 c1 c2 lB
 obtain ⟨c0, c1, c2, lB⟩ := HC.out w1 HS1.out
 by_cases h0 : z1 = 0
 ·subst h0
  go_wp2
  go_ret
  exact ⟨by rw [← HRB.out]; simp, HB1.out⟩
 have u0 : (z1 != 0) = true := by simp [h0]
 have H0 := Lib.hid h0
 clear h0
 go_wp2_with fail
 refine (HI.out w1 HB1.out).mono ?_
 rintro x w2 ⟨rfl, hb2⟩
 have HB2 := Lib.hid (HB1.out.trans (hb2.mono HB1.out.size))
 have cz : w2.cell? ⟨g, off + f, none⟩ = some (.int .i64 zf) := (HB2.out.cell (p := ⟨g, off + f, none⟩) hgl).trans HCF.out
 have lg : g < w2.heap.size := Nat.lt_of_lt_of_le hgl HB2.out.size
 clear hb2 HB1 c0 c1 c2 lB HC HS1
 by_cases hz : zf = 0
 ·subst hz
  go_wp2
  go_ret
  exact ⟨by rw [← HRB.out]; simp [H0.out], HB2.out⟩
 ·have uz : (zf == 0) = false := by simp [hz]
  have HZ := Lib.hid hz
  clear hz
  go_wp2
  go_ret
  exact ⟨by rw [← HRB.out]; simp [HZ.out], HB2.out⟩

def clrN (kind : Int) : Nat → ByteArray
 | 0 => firstN kind
 | 1 => nmBusy
 | 2 => nmActive
 | 3 => nmAborted
 | _ => nmError
theorem clr_px {kind : Int} (h : CmdK kind) {i : Nat} (hi : i < 5) : px kind (clrN kind i) = some (outsN kind + i) := by
 rcases (show i = 0 ∨ i = 1 ∨ i = 2 ∨ i = 3 ∨ i = 4 by omega) with rfl | rfl | rfl | rfl | rfl
 ·exact h.first
 ·exact h.busy
 ·exact h.active
 ·exact h.aborted
 ·exact h.error
def clrI (kind : Int) (off : Nat) : Nat → List Int → List Int
 | 0, zs => zs
 | i + 1, zs => (clrI kind off i zs).set (off + (outsN kind + i)) 0
def clrP (kind : Int) (off : Nat) (zs : List Int) : List Int := clrI kind off 5 zs
theorem clrI_len (kind : Int) (off : Nat) (zs : List Int) : ∀ i, (clrI kind off i zs).length = zs.length
 | 0 => rfl
 | i + 1 => by rw [clrI, List.length_set, clrI_len kind off zs i]

set_option maxRecDepth 100000 in
set_option maxHeartbeats 2000000 in
theorem bclear_at (i kind : Int) (g off c : Nat) (zs : List Int) (w0 w : World) (h : ToldIn i kind g off c zs w0 w) :
  Calls Tryd.prog 42 #[insV i kind (some ⟨g, off, none⟩) (outsN kind + 7) c] w fun e w' => e = .returned (.tuple #[]) ∧ But g w w' ∧ Row w' g (clrP kind off zs) := by
 show Calls Tryd.prog 42 #[.agg #[.int .i64 i, .int .i64 kind, .slice (some ⟨g, off, none⟩) (outsN kind + 7) c]] w _
 have HK := Lib.hid (cmdK h.cmd)
 have hcap := h.cap
 have hlen := h.len
 have HT := Lib.hid h.tab
 have HH := Lib.hid h
 clear h
 go_enter Tryd.func42, Tryd.ntmps42
 go_upto_region 1 with (fail)
 refine wp_name fun W hW => ?_
 obtain ⟨B, hB⟩ : ∃ B, B = w.heap.size := ⟨_, rfl⟩
 have HSW : Hid (InS w0 w W B i kind g off (outsN kind + 7) c zs) := Lib.hid (by rw [hB]; exact InS.start HH.out.old HH.out.low HH.out.row (by rw [hW.out]; exact heap_alloc_new _ _) (by rw [hW.out]; exact belowBy))
 (try rw [← hB])
 clear hW hB
 obtain ⟨c0, c1, c2, lB⟩ := HSW.out.ins
 go_wp2_with fail
 refine (bfirst_at i kind (some ⟨g, off, none⟩) (outsN kind + 7) c W).mono ?_
 rintro e wf ⟨rfl, hbf⟩
 have HSwf := Lib.hid (HSW.out.below hbf)
 clear hbf c0 c1 c2 lB
 go_upto_region 2 with (fail)
 refine wp_name fun W2 hW2 => ?_
 obtain ⟨H, hH⟩ : ∃ H, H = wf.heap.size := ⟨_, rfl⟩
 have hh2 : W2.heap[H]? = some (.cells #[.string (firstN kind), .string nmBusy, .string nmActive, .string nmAborted, .string nmError] 9) := by rw [hW2.out, hH]; exact heap_alloc_new _ _
 have hb2 : Below wf.heap.size wf W2 := by rw [hW2.out]; exact belowBy
 have HS2 := Lib.hid (HSwf.out.below hb2)
 have hHg : H ≠ g := fun e => by have := HSwf.out.row.lt; omega
 have HCN : Hid (∀ W', But g W2 W' → (∀ j, j < 5 → W'.cell? ⟨H, j, none⟩ = some (.string (clrN kind j))) ∧ H < W'.heap.size) := Lib.hid (fun W' hW' => by
  have hl : H < W2.heap.size := (Array.getElem?_eq_some_iff.1 hh2).1
  refine ⟨fun j hj => (hW'.cell H j hl hHg).trans ?_, Nat.lt_of_lt_of_le hl hW'.size⟩
  rcases (show j = 0 ∨ j = 1 ∨ j = 2 ∨ j = 3 ∨ j = 4 by omega) with rfl | rfl | rfl | rfl | rfl
  all_goals exact heap_cell _ _ hh2 rfl)
 have HBW : Hid (But g W2 W2) := Lib.hid (But.refl _ _)
 (try rw [← hH])
 clear hW2 hh2 hb2 hH HSwf HSW
 go_loopw [8] (fun u wr => ∃ (k : Nat), k ≤ 5 ∧ u = .int .i64 k ∧ Hid (InS w0 w wr B i kind g off (outsN kind + 7) c (clrI kind off k zs)) ∧ Hid (But g W2 wr)) (fun u _ => 5 - (intOf u).toNat)
 case atStart => exact ⟨0, by omega, rfl, HS2, HBW⟩
 case round =>
  obtain ⟨k, hk, rfl, HSR, HBR⟩ := hrel
  obtain ⟨zK, hzK⟩ : ∃ z, clrI kind off k zs = z := ⟨_, rfl⟩
  have HZK := Lib.hid hzK
  rw [hzK] at HSR
  clear hzK
  by_cases hlt : k < 5
  ·obtain ⟨hcs, lH⟩ := HCN.out wr HBR.out
   have cs := hcs k hlt
   have HPX := Lib.hid (clr_px HK.out hlt)
   have HZL : Hid (zK.length = zs.length) := Lib.hid (by rw [← HZK.out, clrI_len])
   obtain ⟨c0, c1, c2, lB⟩ := HSR.out.ins
   have hk5 : (0 : Int) ≤ (k : Int) ∧ (k : Int) < 5 := by omega
   obtain ⟨nm, hnm⟩ : ∃ s, clrN kind k = s := ⟨_, rfl⟩
   rw [hnm] at cs HPX
   clear hcs hnm
   go_wp2_with fail
   refine (HSR.out.set HT.out hcap (by rw [HZL.out]; omega) nm (outsN kind + k) false HPX.out (by omega)).mono ?_
   rintro e w4 ⟨rfl, hbt, hrw⟩
   have HS4 : Hid (InS w0 w w4 B i kind g off (outsN kind + 7) c (clrI kind off (k + 1) zs)) := Lib.hid (by
    have := HSR.out.next hbt hrw
    rw [clrI, HZK.out]
    exact this)
   have HB4 := Lib.hid (HBR.out.trans hbt)
   clear hbt hrw c0 c1 c2 lB cs lH
   go_wp2
   go_roundw
   case rel => exact ⟨k + 1, by omega, by go_num, HS4, HB4⟩
   case measure => simp [intOf]; omega
  ·obtain rfl : k = 5 := by omega
   rw [← HZK.out] at HSR
   go_wp2
   refine bodyPost_end (results_none rfl _ _ _) rfl ⟨rfl, HSR.out.but, HSR.out.row⟩

set_option maxRecDepth 100000 in
set_option maxHeartbeats 2000000 in
theorem bcommand23 (i id : Int) (A : Option Addr) (n c : Nat) (w : World) : Calls Tryd.prog 44 #[insV i 23 A n c, .int .i64 id] w fun e w' => e = .returned (.agg #[.int .i64 id, .int .i64 5, .int .i64 0, .int .i64 0, .int .i64 0, .int .i64 0, .int .i64 0]) ∧ Below w.heap.size w w' := by
 show Calls Tryd.prog 44 #[.agg #[.int .i64 i, .int .i64 23, .slice A n c], .int .i64 id] w _
 go_enter Tryd.func44, Tryd.ntmps44
 go_wp2
 refine bodyPost_ret (v := .agg #[.int .i64 id, .int .i64 5, .int .i64 0, .int .i64 0, .int .i64 0, .int .i64 0, .int .i64 0]) (by simp [results, Tryd.results44, go_sem]) rfl ⟨rfl, by exact belowBy⟩

end Go.Proofs.YtknnhnefbbjcdaaDoor

namespace Go.Proofs.YtknnhnefbbjcdaaDoor
open Go.RowKit
set_option linter.unusedVariables false
set_option linter.unusedSimpArgs false

section
variable {P : Program} {md : Region.Mode} {l : List Oper} {Q : Exit → Act → World → Prop} {S : World → Prop} {fuel : Nat} {listed : Array Bool} {a : Act} {w : World} {i j : Nat} {o p : Oper}
theorem twoH (hr : Region.ready md l.toArray listed = [i, j]) (ho : l[i]? = some o) (hp : l[j]? = some p)
  (h1 : ∀ K' : Act → World → Prop, Shut (∀ a w, S w → (S w → wpAnyH P md l.toArray Q S fuel (listed.setIfInBounds i true) a w) → K' a w) → if Region.wanted o (yielded l.toArray a.tmps) = true then Oper.wp P o a w K' Q else K' (a.put o.dst undef) w)
  (h2 : ∀ K' : Act → World → Prop, Shut (∀ a w, S w → (S w → wpAnyH P md l.toArray Q S fuel (listed.setIfInBounds j true) a w) → K' a w) → if Region.wanted p (yielded l.toArray a.tmps) = true then Oper.wp P p a w K' Q else K' (a.put p.dst undef) w) :
  wpAnyH P md l.toArray Q S (fuel + 1) listed a w :=
 wpAnyH_ready hr (by simp) (AllReadyH.cons (by simpa using ho) h1 (AllReadyH.cons (by simpa using hp) h2 AllReadyH.nil))
end

end Go.Proofs.YtknnhnefbbjcdaaDoor

namespace Go.Proofs.YtknnhnefbbjcdaaDoor
open Go.RowKit
set_option linter.unusedVariables false
set_option linter.unusedSimpArgs false
attribute [local go_sem] ite_max ite_min vite_max vite_min ext_cell ext_frozen

structure Buts (P : Nat → Prop) (w w' : World) : Prop where
 size : w.heap.size ≤ w'.heap.size
 blk : ∀ b, b < w.heap.size → ¬ P b → w'.heap[b]? = w.heap[b]?
 below : ∀ B, (∀ b, P b → B ≤ b) → B ≤ w.heap.size → Below B w w'
theorem Buts.cell {P : Nat → Prop} {w w' : World} (h : Buts P w w') : ∀ b o, b < w.heap.size → ¬ P b → w'.cell? ⟨b, o, none⟩ = w.cell? ⟨b, o, none⟩ := fun b o hb hn => World.cell?_of_block (a := ⟨b, o, none⟩) (h.blk b hb hn)
theorem Buts.froz {P : Nat → Prop} {w w' : World} (h : Buts P w w') : ∀ b o, b < w.heap.size → ¬ P b → w'.frozen? ⟨b, o, none⟩ = w.frozen? ⟨b, o, none⟩ := fun b o hb hn => World.frozen?_of_block (a := ⟨b, o, none⟩) (h.blk b hb hn)
theorem Buts.of_but {P : Nat → Prop} {g : Nat} {w w' : World} (h : But g w w') (hp : P g) : Buts P w w' :=
 ⟨h.size, fun b hb hn => h.blk b hb (fun e => hn (e ▸ hp)), fun B hB hs => h.below B (hB g hp) hs⟩
theorem Buts.of_below {P : Nat → Prop} {w w' : World} (h : Below w.heap.size w w') : Buts P w w' :=
 ⟨h.size, fun b hb _ => h.block b hb, fun _ _ h2 => h.mono h2⟩
theorem Buts.trans {P : Nat → Prop} {a b c : World} (h1 : Buts P a b) (h2 : Buts P b c) : Buts P a c :=
 ⟨Nat.le_trans h1.size h2.size, fun x hx hn => (h2.blk x (Nat.lt_of_lt_of_le hx h1.size) hn).trans (h1.blk x hx hn),
  fun B hB hs => (h1.below B hB hs).trans (h2.below B hB (Nat.le_trans hs h1.size))⟩
structure AS (w0 w W : World) (g K qi ci : Nat) (nx : Int) (cv : Value) (zs : List Int) : Prop where
 row : Row W g zs
 k1 : W.cell? ⟨K, 1, none⟩ = some (.int .i64 nx)
 k2 : W.cell? ⟨K, 2, none⟩ = some (.slice (some ⟨qi, 0, none⟩) 1 ci)
 k4 : W.cell? ⟨K, 4, none⟩ = some (.int .i64 1)
 iv : W.cell? ⟨qi, 11, none⟩ = some cv
 kf : ∀ o, W.frozen? ⟨K, o, none⟩ = false
 qf : ∀ o, W.frozen? ⟨qi, o, none⟩ = false
 lK : K < W.heap.size
 lq : qi < W.heap.size
 nKg : K ≠ g
 nqg : qi ≠ g
 nKq : K ≠ qi
 buts : Buts (fun b => b = g ∨ b = K ∨ b = qi) w W
 low : w0.heap.size ≤ g ∧ w0.heap.size ≤ K ∧ w0.heap.size ≤ qi
 old : Below w0.heap.size w0 W
 ek : ∀ j, j ≠ 1 → W.cell? ⟨K, j, none⟩ = w.cell? ⟨K, j, none⟩
 eq : ∀ j, j ≠ 11 → W.cell? ⟨qi, j, none⟩ = w.cell? ⟨qi, j, none⟩
section
variable {w0 w W W' : World} {g K qi ci : Nat} {nx : Int} {cv : Value} {zs zs' : List Int}
theorem AS.low3 (h : AS w0 w W g K qi ci nx cv zs) : ∀ b, (b = g ∨ b = K ∨ b = qi) → w0.heap.size ≤ b := by
 rintro b (rfl | rfl | rfl)
 ·exact h.low.1
 ·exact h.low.2.1
 ·exact h.low.2.2
theorem AS.next (h : AS w0 w W g K qi ci nx cv zs) (hb : But g W W') (hr : Row W' g zs') : AS w0 w W' g K qi ci nx cv zs' :=
 have hB : Buts (fun b => b = g ∨ b = K ∨ b = qi) W W' := Buts.of_but hb (.inl rfl)
 ⟨hr, (hb.cell K 1 h.lK h.nKg).trans h.k1, (hb.cell K 2 h.lK h.nKg).trans h.k2, (hb.cell K 4 h.lK h.nKg).trans h.k4, (hb.cell qi 11 h.lq h.nqg).trans h.iv, fun o => (hb.froz K o h.lK h.nKg).trans (h.kf o), fun o => (hb.froz qi o h.lq h.nqg).trans (h.qf o), Nat.lt_of_lt_of_le h.lK hb.size, Nat.lt_of_lt_of_le h.lq hb.size, h.nKg, h.nqg, h.nKq, h.buts.trans hB, h.low, h.old.trans (hB.below _ h.low3 h.old.size), fun j hj => (hb.cell K j h.lK h.nKg).trans (h.ek j hj), fun j hj => (hb.cell qi j h.lq h.nqg).trans (h.eq j hj)⟩
theorem AS.below (h : AS w0 w W g K qi ci nx cv zs) (hb : Below W.heap.size W W') : AS w0 w W' g K qi ci nx cv zs := h.next (But.of_below hb) (h.row.below hb)
theorem AS.put (h : AS w0 w W g K qi ci nx cv zs) (k : Nat) (v : Int) : AS w0 w (W.setCell ⟨g, k, none⟩ (.int .i64 v)) g K qi ci nx cv (zs.set k v) := h.next ((But.refl g W).set k _) (h.row.set k v)
theorem row_but {b : Nat} (h : Row W g zs) (hb : But b W W') (hn : g ≠ b) : Row W' g zs := ⟨Nat.lt_of_lt_of_le h.lt hb.size, fun j z hz => (hb.cell g j h.lt hn).trans (h.cell j z hz), fun o => (hb.froz g o h.lt hn).trans (h.free o)⟩
theorem AS.putK (h : AS w0 w W g K qi ci nx cv zs) (v : Int) : AS w0 w (W.setCell ⟨K, 1, none⟩ (.int .i64 v)) g K qi ci v cv zs :=
 have hb : But K W (W.setCell ⟨K, 1, none⟩ (.int .i64 v)) := (But.refl K W).set 1 _
 have hB : Buts (fun b => b = g ∨ b = K ∨ b = qi) W (W.setCell ⟨K, 1, none⟩ (.int .i64 v)) := Buts.of_but hb (.inr (.inl rfl))
 have hc := h.k1
 have hf := fun o => (show (W.setCell ⟨K, 1, none⟩ (.int .i64 v)).frozen? ⟨K, o, none⟩ = W.frozen? ⟨K, o, none⟩ by go_simp).trans (h.kf o)
 ⟨row_but h.row hb (Ne.symm h.nKg), by have := h.kf 1; go_simp, (World.cell?_setCell_other _ _ _ _ (by simp)).trans h.k2, (World.cell?_setCell_other _ _ _ _ (by simp)).trans h.k4, (hb.cell qi 11 h.lq (Ne.symm h.nKq)).trans h.iv, hf, fun o => (hb.froz qi o h.lq (Ne.symm h.nKq)).trans (h.qf o), Nat.lt_of_lt_of_le h.lK hb.size, Nat.lt_of_lt_of_le h.lq hb.size, h.nKg, h.nqg, h.nKq, h.buts.trans hB, h.low, h.old.trans (hB.below _ h.low3 h.old.size), fun j hj => (World.cell?_setCell_other _ _ _ _ (fun e => by injection e with e1 e2; exact hj e2.symm)).trans (h.ek j hj), fun j hj => (hb.cell qi j h.lq (Ne.symm h.nKq)).trans (h.eq j hj)⟩
theorem AS.putI (h : AS w0 w W g K qi ci nx cv zs) (v : Value) : AS w0 w (W.setCell ⟨qi, 11, none⟩ v) g K qi ci nx v zs :=
 have hb : But qi W (W.setCell ⟨qi, 11, none⟩ v) := (But.refl qi W).set 11 _
 have hB : Buts (fun b => b = g ∨ b = K ∨ b = qi) W (W.setCell ⟨qi, 11, none⟩ v) := Buts.of_but hb (.inr (.inr rfl))
 have hc := h.iv
 have hf := fun o => (show (W.setCell ⟨qi, 11, none⟩ v).frozen? ⟨qi, o, none⟩ = W.frozen? ⟨qi, o, none⟩ by go_simp).trans (h.qf o)
 ⟨row_but h.row hb (Ne.symm h.nqg), (hb.cell K 1 h.lK h.nKq).trans h.k1, (hb.cell K 2 h.lK h.nKq).trans h.k2, (hb.cell K 4 h.lK h.nKq).trans h.k4, by have := h.qf 11; go_simp, fun o => (hb.froz K o h.lK h.nKq).trans (h.kf o), hf, Nat.lt_of_lt_of_le h.lK hb.size, Nat.lt_of_lt_of_le h.lq hb.size, h.nKg, h.nqg, h.nKq, h.buts.trans hB, h.low, h.old.trans (hB.below _ h.low3 h.old.size), fun j hj => (hb.cell K j h.lK h.nKq).trans (h.ek j hj), fun j hj => (World.cell?_setCell_other _ _ _ _ (fun e => by injection e with e1 e2; exact hj e2.symm)).trans (h.eq j hj)⟩
theorem AS.rebase (h : AS w0 w W g K qi ci nx cv zs) : AS w0 W W g K qi ci nx cv zs := ⟨h.row, h.k1, h.k2, h.k4, h.iv, h.kf, h.qf, h.lK, h.lq, h.nKg, h.nqg, h.nKq, Buts.of_below (Below.refl _ _), h.low, h.old, fun _ _ => rfl, fun _ _ => rfl⟩
theorem AS.set (ht : Blanks w0) {c : Nat} (hc : 9 ≤ c ∧ c ≤ 9223372036854775807) (h : AS w0 w W g K qi ci nx cv zs) (hz : zs.length = 9) (nm : ByteArray) (k : Nat) (b : Bool) (hk : px 23 nm = some k) (hkn : k < 9) :
  Calls Tryd.prog 43 #[.agg #[.int .i64 0, .int .i64 23, .slice (some ⟨g, 0, none⟩) 9 c], .string nm, .bool b] W fun e w' => e = .returned (.tuple #[]) ∧ But g W w' ∧ Row w' g (zs.set k (bif b then 1 else 0)) := by
 have := bset_at 0 23 g 0 9 c zs nm k b W (ht.on h.old) h.row hk hkn hc (by omega)
 rw [Nat.zero_add] at this
 exact this
theorem AS.inner (ht : Blanks w0) {c : Nat} (hc : 9 ≤ c ∧ c ≤ 9223372036854775807) (h : AS w0 w W g K qi ci nx cv zs) (m : Nat) (hm : m < 2) :
  Calls Tryd.prog 25 #[.agg #[.int .i64 0, .int .i64 23, .slice (some ⟨g, 0, none⟩) 9 c], .int .i64 m] W fun e w' => e = .returned (.pointer (some ⟨g, 7 + m, none⟩)) ∧ Below W.heap.size W w' := by
 have := binner_at 0 23 g 0 9 c m 7 W (ht.on h.old) (show px 23 ⟨#[]⟩ = some 7 by kernel_rfl) (by omega) hc
 rw [Nat.zero_add] at this
 exact this
theorem AS.axis (ht : Blanks w0) {c : Nat} (hc : 9 ≤ c ∧ c ≤ 9223372036854775807) (h : AS w0 w W g K qi ci nx cv zs) (hz : zs[0]? = some 0) :
  Calls Tryd.prog 18 #[.agg #[.int .i64 0, .int .i64 23, .slice (some ⟨g, 0, none⟩) 9 c], .int .i64 1] W fun e w' => e = .returned (.tuple #[.int .i64 0, .bool true]) ∧ Below W.heap.size W w' :=
 baxis_at 0 23 g 0 9 c zs 0 1 W (ht.on h.old) h.row (show px 23 nmAxis = some 0 by kernel_rfl) (by decide) hc hz
theorem AS.exec (ht : Blanks w0) {c : Nat} (hc : 9 ≤ c ∧ c ≤ 9223372036854775807) (h : AS w0 w W g K qi ci nx cv zs) (hz : zs[1]? = some 1) :
  Calls Tryd.prog 19 #[.agg #[.int .i64 0, .int .i64 23, .slice (some ⟨g, 0, none⟩) 9 c], .string ⟨#[69, 120, 101, 99, 117, 116, 101]⟩] W fun e w' => e = .returned (.int .i64 1) ∧ Below W.heap.size W w' :=
 bget_at 0 23 g 0 9 c zs nmExecute 1 1 W (ht.on h.old) h.row (show px 23 nmExecute = some 1 by kernel_rfl) (by decide) hc hz
theorem AS.rises (ht : Blanks w0) {c : Nat} (hc : 9 ≤ c ∧ c ≤ 9223372036854775807) (h : AS w0 w W g K qi ci nx cv zs) (hz : zs[1]? = some 1) (hz7 : zs[7]? = some 0) :
  Calls Tryd.prog 41 #[.agg #[.int .i64 0, .int .i64 23, .slice (some ⟨g, 0, none⟩) 9 c]] W fun e w' => e = .returned (.bool true) ∧ Below W.heap.size W w' :=
 brises_at 0 23 g 0 9 c 1 7 zs 1 0 W (ht.on h.old) h.row (show px 23 nmExecute = some 1 by kernel_rfl) (show px 23 ⟨#[]⟩ = some 7 by kernel_rfl) (by decide) (by decide) hc hz hz7
theorem AS.clear (ht : Blanks w0) {c : Nat} (hc : 9 ≤ c ∧ c ≤ 9223372036854775807) (h : AS w0 w W g K qi ci nx cv zs) (hz : zs.length = 9) :
  Calls Tryd.prog 42 #[.agg #[.int .i64 0, .int .i64 23, .slice (some ⟨g, 0, none⟩) 9 c]] W fun e w' => e = .returned (.tuple #[]) ∧ But g W w' ∧ Row w' g (clrP 23 0 zs) := by
 have h23 : outsN 23 = 2 := by kernel_rfl
 have := bclear_at 0 23 g 0 c zs w0 W ⟨by decide, by rw [h23]; exact hc, by rw [h23, hz]; decide, ht, h.old, h.low.1, h.row⟩
 rw [h23] at this
 exact this
end
theorem owns_cellN {w : World} {base size : Nat} {e : TypeId} {v : Value} {n : Nat} {xs : List Value} {g : Nat} (h : w.ownsRow base e size v n xs) (hg : v.ownBlock = some g) {j : Nat} {u : Value} (hu : xs[j]? = some u) : w.cell? ⟨g, j, none⟩ = some u := by
 have := h.cells hg j u hu
 have hadd : (⟨g, 0, none⟩ : Addr).add j = ⟨g, j, none⟩ := by cases j <;> simp [Addr.add]
 rwa [hadd] at this
theorem cmd_info : (Tryd.prog.info? 50).map (fun i => (i.zero.map (·.cells.size), i.size, i.bytes)) = some (some 7, 7, 56) := by kernel_rfl
theorem cmd_parts : ∃ i z, Tryd.prog.info? 50 = some i ∧ i.zero = some z ∧ z.cells.size = 7 ∧ i.size = 7 ∧ i.bytes = 56 := by
 obtain ⟨i, hi, h⟩ := Option.map_eq_some_iff.1 cmd_info
 simp only [Prod.mk.injEq] at h
 obtain ⟨hz, h1, h2⟩ := h
 obtain ⟨z, hz, hs⟩ := Option.map_eq_some_iff.1 hz
 exact ⟨i, z, hi, hz, hs, h1, h2⟩

set_option maxRecDepth 100000 in
set_option maxHeartbeats 4000000 in
theorem asks23_at (g c K qi ci : Nat) (w0 w : World) (hc : 9 ≤ c ∧ c ≤ 9223372036854775807) (ht : Blanks w0) (h : AS w0 w w g K qi ci 1 (.slice none 0 0) [0, 1, 0, 0, 0, 0, 0, 0, 0]) :
  Calls Tryd.prog 21 #[.pointer (some ⟨K, 0, none⟩), .agg #[.int .i64 0, .int .i64 23, .slice (some ⟨g, 0, none⟩) 9 c]] w fun e w' => e = .returned (.tuple #[]) ∧ ∃ hh kc, AS w0 w w' g K qi ci 2 (.slice (some ⟨hh, 0, none⟩) 1 kc) [0, 1, 0, 1, 0, 0, 0, 1, 1] ∧ w'.cell? ⟨hh, 1, none⟩ = some (.int .i64 5) ∧ hh < w'.heap.size ∧ w.heap.size ≤ hh ∧ 1 ≤ kc ∧ kc ≤ 9223372036854775807 := by
 obtain ⟨i0, z0, hi, hz0, hz1, hz2, hz3⟩ := cmd_parts
 have HI := Lib.hid hi
 have HZ0 := Lib.hid hz0
 have HZS := Lib.hid hz1
 have HS0 := Lib.hid hz2
 have HBB := Lib.hid hz3
 have HT := Lib.hid ht
 have HH := Lib.hid h
 clear h ht hi hz0 hz1 hz2 hz3
 go_enter Tryd.func21, Tryd.ntmps21
 go_upto_region 1 with (fail)
 refine wp_name fun W hW => ?_
 obtain ⟨B, hB⟩ : ∃ B, B = w.heap.size := ⟨_, rfl⟩
 have hbel : Below w.heap.size w W := by rw [hW.out]; exact belowBy
 have hlB : B < W.heap.size := by rw [hW.out, hB]; simp
 have HAW : Hid (AS w0 w W g K qi ci 1 (.slice none 0 0) [0, 1, 0, 0, 0, 0, 0, 0, 0]) := Lib.hid (HH.out.below hbel)
 have HNB : Hid (B ≠ g ∧ B ≠ K ∧ B ≠ qi ∧ w.heap.size ≤ B ∧ ¬ (B = g ∨ B = K ∨ B = qi)) := Lib.hid (by
  have h1 := HH.out.row.lt
  have h2 := HH.out.lK
  have h3 := HH.out.lq
  omega)
 have HC : Hid (∀ W', Buts (fun b => b = g ∨ b = K ∨ b = qi) W W' → W'.cell? ⟨B, 0, none⟩ = some (.int .i64 0) ∧ W'.cell? ⟨B, 1, none⟩ = some (.int .i64 23) ∧ W'.cell? ⟨B, 2, none⟩ = some (.slice (some ⟨g, 0, none⟩) 9 c) ∧ B < W'.heap.size) := Lib.hid (fun W' hW' => by
  have hl : B < W.heap.size := hlB
  refine ⟨(hW'.cell B 0 hl HNB.out.2.2.2.2).trans ?_, (hW'.cell B 1 hl HNB.out.2.2.2.2).trans ?_, (hW'.cell B 2 hl HNB.out.2.2.2.2).trans ?_, Nat.lt_of_lt_of_le hl hW'.size⟩
  all_goals (rw [hW.out, hB]; go_simp))
 have HB0 := Lib.hid (hbel.size)
 (try rw [← hB])
 clear hW hbel hB hlB HH
 have HU : Hid (Buts (fun b => b = g ∨ b = K ∨ b = qi) W W) := Lib.hid (Buts.of_below (Below.refl _ _))
 obtain ⟨c0, c1, c2, lB⟩ := HC.out W HU.out
 have k4 := HAW.out.k4
 have lK := HAW.out.lK
 have HAX := Lib.hid (fun W' (hW' : Below W.heap.size W W') => (HAW.out.below hW').axis HT.out hc rfl)
 refine wp_region_ext (by kernel_rfl) (by kernel_rfl) ?_
 repeat (go_big_quiet_step ((go_at_call 18; exact ext_call (HAX.out _ (ext_below ⟨_, rfl⟩)))))
 refine wpQuiet_nil ?_
 intro w1 hb1
 replace hb1 := ext_below hb1
 have HA1 := Lib.hid (HAW.out.below hb1)
 have HU1 := Lib.hid (HU.out.trans (Buts.of_below hb1))
 clear hb1 c0 c1 c2 lB k4 lK HAX HAW HU
 obtain ⟨c0, c1, c2, lB⟩ := HC.out w1 HU1.out
 go_wp2_with fail
 refine (HA1.out.exec HT.out hc rfl).mono ?_
 rintro e w2 ⟨rfl, hb⟩
 have HA2 := Lib.hid (HA1.out.below hb)
 have HU2 := Lib.hid (HU1.out.trans (Buts.of_below hb))
 clear hb c0 c1 c2 lB HA1 HU1
 obtain ⟨c0, c1, c2, lB⟩ := HC.out w2 HU2.out
 go_wp2_with fail
 refine (HA2.out.rises HT.out hc rfl rfl).mono ?_
 rintro e w3 ⟨rfl, hb⟩
 have HA3 := Lib.hid (HA2.out.below hb)
 have HU3 := Lib.hid (HU2.out.trans (Buts.of_below hb))
 clear hb c0 c1 c2 lB HA2 HU2
 obtain ⟨c0, c1, c2, lB⟩ := HC.out w3 HU3.out
 go_wp2_with fail
 refine (HA3.out.clear HT.out hc rfl).mono ?_
 rintro e w4 ⟨rfl, hbt, hrw⟩
 have HA4 := Lib.hid (HA3.out.next hbt hrw)
 have HU4 := Lib.hid (HU3.out.trans (Buts.of_but hbt (.inl rfl)))
 clear hbt hrw c0 c1 c2 lB HA3 HU3
 have HAc : Hid (AS w0 w w4 g K qi ci 1 (.slice none 0 0) [0, 1, 0, 0, 0, 0, 0, 0, 0]) := Lib.hid (HA4.out)
 clear HA4
 obtain ⟨c0, c1, c2, lB⟩ := HC.out w4 HU4.out
 go_wp2_with fail
 refine (HAc.out.inner HT.out hc 1 (by decide)).mono ?_
 rintro e w5 ⟨rfl, hb⟩
 have HA5 := Lib.hid (HAc.out.below hb)
 have HU5 := Lib.hid (HU4.out.trans (Buts.of_below hb))
 clear hb c0 c1 c2 lB HAc HU4
 have cz := HA5.out.row.cell 8 _ rfl
 have cf := HA5.out.row.free 8
 have lg := HA5.out.row.lt
 go_upto_region 6 with (fail)
 refine wp_name fun w6 hw => ?_
 have HA6 : Hid (AS w0 w w6 g K qi ci 1 (.slice none 0 0) (_)) := Lib.hid (by rw [hw.out]; exact HA5.out.put 8 0)
 have HU6 : Hid (Buts (fun b => b = g ∨ b = K ∨ b = qi) W w6) := Lib.hid (by rw [hw.out]; exact HU5.out.trans (Buts.of_but ((But.refl g _).set 8 _) (.inl rfl)))
 clear hw cz cf lg HA5 HU5
 obtain ⟨c0, c1, c2, lB⟩ := HC.out w6 HU6.out
 go_wp2_with fail
 refine (HA6.out.set HT.out hc rfl nmBusy 3 true (show px 23 nmBusy = some 3 by kernel_rfl) (by decide)).mono ?_
 rintro e w7 ⟨rfl, hbt, hrw⟩
 have HA7 := Lib.hid (HA6.out.next hbt hrw)
 have HU7 := Lib.hid (HU6.out.trans (Buts.of_but hbt (.inl rfl)))
 clear hbt hrw c0 c1 c2 lB HA6 HU6
 obtain ⟨c0, c1, c2, lB⟩ := HC.out w7 HU7.out
 go_upto_region 9 with (fail)
 have k1 := HA7.out.k1
 have lK := HA7.out.lK
 have HIN := Lib.hid (fun W' (hW' : Below w7.heap.size w7 W') => (HA7.out.below hW').inner HT.out hc 1 (by decide))
 refine wp_region_ext_tail 8 (by kernel_rfl) (by kernel_rfl) ?_
 simp only [List.take_succ_cons, List.take_zero, List.drop_succ_cons, List.drop_zero]
 repeat (go_big_quiet_step ((go_at_call 25; exact ext_call (HIN.out _ (ext_below ⟨_, rfl⟩)))))
 refine wpQuiet_nil ?_
 intro w8 hb8
 replace hb8 := ext_below hb8
 have HA8 := Lib.hid (HA7.out.below hb8)
 have HU8 := Lib.hid (HU7.out.trans (Buts.of_below hb8))
 clear hb8 c0 c1 c2 lB k1 lK HIN HA7 HU7
 have cz := HA8.out.row.cell 8 _ rfl
 have cf := HA8.out.row.free 8
 have lg := HA8.out.row.lt
 go_upto_region 10 with (fail)
 refine wp_name fun w9 hw => ?_
 have HA9 : Hid (AS w0 w w9 g K qi ci 1 (.slice none 0 0) (_)) := Lib.hid (by rw [hw.out]; exact HA8.out.put 8 1)
 have HU9 : Hid (Buts (fun b => b = g ∨ b = K ∨ b = qi) W w9) := Lib.hid (by rw [hw.out]; exact HU8.out.trans (Buts.of_but ((But.refl g _).set 8 _) (.inl rfl)))
 clear hw cz cf lg HA8 HU8
 obtain ⟨c0, c1, c2, lB⟩ := HC.out w9 HU9.out
 have k1 := HA9.out.k1
 have k2 := HA9.out.k2
 have lK := HA9.out.lK
 have lq := HA9.out.lq
 have HR : Hid (∀ W', But qi w9 W' → W'.cell? ⟨K, 1, none⟩ = some (.int .i64 1) ∧ W'.cell? ⟨K, 2, none⟩ = some (.slice (some ⟨qi, 0, none⟩) 1 ci) ∧ W'.cell? ⟨B, 0, none⟩ = some (.int .i64 0) ∧ W'.cell? ⟨B, 1, none⟩ = some (.int .i64 23) ∧ W'.cell? ⟨B, 2, none⟩ = some (.slice (some ⟨g, 0, none⟩) 9 c) ∧ K < W'.heap.size ∧ qi < W'.heap.size ∧ B < W'.heap.size) := Lib.hid (fun W' hW' => by
  have n1 := HA9.out.nKq
  have n2 := HNB.out.2.2.1
  have hz := hW'.size
  exact ⟨(hW'.cell K 1 lK n1).trans k1, (hW'.cell K 2 lK n1).trans k2, (hW'.cell B 0 lB n2).trans c0, (hW'.cell B 1 lB n2).trans c1, (hW'.cell B 2 lB n2).trans c2, by omega, by omega, by omega⟩)
 have HS9 : Hid (W.heap.size ≤ w9.heap.size) := Lib.hid (HU9.out.size)
 have HQ : Hid (∀ W', Below w9.heap.size w9 W' → W'.cell? ⟨qi, 11, none⟩ = some (.slice none 0 0)) := Lib.hid (fun W' hW' => (hW'.cell (p := ⟨qi, 11, none⟩) lq).trans HA9.out.iv)
 have HCM := Lib.hid (fun W' => bcommand23 0 1 (some ⟨g, 0, none⟩) 9 c W')
 clear c0 c1 c2 lB k1 k2 lK lq
 go_cut [] from 41 to 66 (fun wx => ∃ hh kc, Hid (AS w0 w wx g K qi ci 1 (.slice (some ⟨hh, 0, none⟩) 1 kc) [0, 1, 0, 1, 0, 0, 0, 0, 1]) ∧ Hid (wx.cell? ⟨hh, 1, none⟩ = some (.int .i64 5) ∧ hh < wx.heap.size) ∧ Hid (Buts (fun b => b = g ∨ b = K ∨ b = qi) W wx) ∧ Hid (w9.heap.size ≤ hh ∧ 1 ≤ kc ∧ kc ≤ 9223372036854775807))
 case first =>
  have HBD : Hid (Below w9.heap.size w9 w9.drew) := Lib.hid (by exact belowBy)
  refine wp_region_held_drew (S := (fun W' => W'.cell? ⟨K, 1, none⟩ = some (.int .i64 1) ∧ W'.cell? ⟨K, 2, none⟩ = some (.slice (some ⟨qi, 0, none⟩) 1 ci) ∧ W'.cell? ⟨B, 0, none⟩ = some (.int .i64 0) ∧ W'.cell? ⟨B, 1, none⟩ = some (.int .i64 23) ∧ W'.cell? ⟨B, 2, none⟩ = some (.slice (some ⟨g, 0, none⟩) 9 c) ∧ K < W'.heap.size ∧ qi < W'.heap.size ∧ B < W'.heap.size)) (by kernel_rfl) (HR.out _ (But.of_below HBD.out)) (fun hHeld => ?_)
  (try simp only [Act.put, List.setIfInBounds_toArray, List.set_cons_zero, List.set_cons_succ])
  (refine takeH (i := 0) (v := ?_) rfl (by kernel_rfl) (by kernel_rfl) (by kernel_rfl) (fun _ _ _ h => h) (Or.inl ⟨by first | kernel_rfl | rfl, ?_⟩) (by assumption) ?_; rotate_left; (focus (intro w' hSw; (try dsimp only at hSw); go_simp; try (with_reducible rfl))))
  (refine takeH (i := 1) (v := ?_) rfl (by kernel_rfl) (by kernel_rfl) (by kernel_rfl) (fun _ _ _ h => h) (Or.inl ⟨by first | kernel_rfl | rfl, ?_⟩) (by assumption) ?_; rotate_left; (focus (intro w' hSw; (try dsimp only at hSw); go_simp; try (with_reducible rfl))))
  (refine takeH (i := 2) (v := ?_) rfl (by kernel_rfl) (by kernel_rfl) (by kernel_rfl) (fun _ _ _ h => h) (Or.inl ⟨by first | kernel_rfl | rfl, ?_⟩) (by assumption) ?_; rotate_left; (focus (intro w' hSw; (try dsimp only at hSw); go_simp; try (with_reducible rfl))))
  (refine takeH (i := 3) (v := ?_) rfl (by kernel_rfl) (by kernel_rfl) (by kernel_rfl) (fun _ _ _ h => h) (Or.inl ⟨by first | kernel_rfl | rfl, ?_⟩) (by assumption) ?_; rotate_left; (focus (intro w' hSw; (try dsimp only at hSw); go_simp; try (with_reducible rfl))))
  (refine takeH (i := 4) (v := ?_) rfl (by kernel_rfl) (by kernel_rfl) (by kernel_rfl) (fun _ _ _ h => h) (Or.inl ⟨by first | kernel_rfl | rfl, ?_⟩) (by assumption) ?_; rotate_left; (focus (intro w' hSw; (try dsimp only at hSw); go_simp; try (with_reducible rfl))))
  (refine takeH (i := 5) (v := ?_) rfl (by kernel_rfl) (by kernel_rfl) (by kernel_rfl) (fun _ _ _ h => h) (Or.inl ⟨by first | kernel_rfl | rfl, ?_⟩) (by assumption) ?_; rotate_left; (focus (intro w' hSw; (try dsimp only at hSw); go_simp; try (with_reducible rfl))))
  (refine takeH (i := 6) (v := ?_) rfl (by kernel_rfl) (by kernel_rfl) (by kernel_rfl) (fun _ _ _ h => h) (Or.inl ⟨by first | kernel_rfl | rfl, ?_⟩) (by assumption) ?_; rotate_left; (focus (intro w' hSw; (try dsimp only at hSw); go_simp; try (with_reducible rfl))))
  (refine takeH (i := 7) (v := ?_) rfl (by kernel_rfl) (by kernel_rfl) (by kernel_rfl) (fun _ _ _ h => h) (Or.inl ⟨by first | kernel_rfl | rfl, ?_⟩) (by assumption) ?_; rotate_left; (focus (intro w' hSw; (try dsimp only at hSw); go_simp; try (with_reducible rfl))))
  (refine takeH (i := 8) (v := ?_) rfl (by kernel_rfl) (by kernel_rfl) (by kernel_rfl) (fun _ _ _ h => h) (Or.inl ⟨by first | kernel_rfl | rfl, ?_⟩) (by assumption) ?_; rotate_left; (focus (intro w' hSw; (try dsimp only at hSw); go_simp; try (with_reducible rfl))))
  (refine takeH (i := 9) (v := ?_) rfl (by kernel_rfl) (by kernel_rfl) (by kernel_rfl) (fun _ _ _ h => h) (Or.inl ⟨by first | kernel_rfl | rfl, ?_⟩) (by assumption) ?_; rotate_left; (focus (intro w' hSw; (try dsimp only at hSw); go_simp; try (with_reducible rfl))))
  (refine takeH (i := 10) (v := ?_) rfl (by kernel_rfl) (by kernel_rfl) (by kernel_rfl) (fun _ _ _ h => h) (Or.inl ⟨by first | kernel_rfl | rfl, ?_⟩) (by assumption) ?_; rotate_left; (focus (intro w' hSw; (try dsimp only at hSw); go_simp; try (with_reducible rfl))))
  (refine takeH (i := 11) (v := ?_) rfl (by kernel_rfl) (by kernel_rfl) (by kernel_rfl) (fun _ _ _ h => h) (Or.inl ⟨by first | kernel_rfl | rfl, ?_⟩) (by assumption) ?_; rotate_left; (focus (intro w' hSw; (try dsimp only at hSw); go_simp; try (with_reducible rfl))))
  (refine takeH (i := 12) (v := ?_) rfl (by kernel_rfl) (by kernel_rfl) (by kernel_rfl) (fun _ _ _ h => h) (Or.inl ⟨by first | kernel_rfl | rfl, ?_⟩) (by assumption) ?_; rotate_left; (focus (intro w' hSw; (try dsimp only at hSw); go_simp; try (with_reducible rfl))))
  (refine takeH (i := 13) (v := ?_) rfl (by kernel_rfl) (by kernel_rfl) (by kernel_rfl) (fun _ _ _ h => h) (Or.inl ⟨by first | kernel_rfl | rfl, ?_⟩) (by assumption) ?_; rotate_left; (focus (intro w' hSw; (try dsimp only at hSw); go_simp; try (with_reducible rfl))))
  (refine takeH (i := 15) (v := ?_) rfl (by kernel_rfl) (by kernel_rfl) (by kernel_rfl) (fun _ _ _ h => h) (Or.inl ⟨by first | kernel_rfl | rfl, ?_⟩) (by assumption) ?_; rotate_left; (focus (intro w' hSw; (try dsimp only at hSw); go_simp; try (with_reducible rfl))))
  (refine takeH (i := 16) (v := ?_) rfl (by kernel_rfl) (by kernel_rfl) (by kernel_rfl) (fun _ _ _ h => h) (Or.inl ⟨by first | kernel_rfl | rfl, ?_⟩) (by assumption) ?_; rotate_left; (focus (intro w' hSw; (try dsimp only at hSw); go_simp; try (with_reducible rfl))))
  (refine takeH (i := 17) (v := ?_) rfl (by kernel_rfl) (by kernel_rfl) (by kernel_rfl) (fun _ _ _ h => h) (Or.inl ⟨by first | kernel_rfl | rfl, ?_⟩) (by assumption) ?_; rotate_left; (focus (intro w' hSw; (try dsimp only at hSw); go_simp; try (with_reducible rfl))))
  (refine takeH (i := 18) (v := ?_) rfl (by kernel_rfl) (by kernel_rfl) (by kernel_rfl) (fun _ _ _ h => h) (Or.inl ⟨by first | kernel_rfl | rfl, ?_⟩) (by assumption) ?_; rotate_left; (focus (intro w' hSw; (try dsimp only at hSw); go_simp; try (with_reducible rfl))))
  (refine takeH (i := 19) (v := ?_) rfl (by kernel_rfl) (by kernel_rfl) (by kernel_rfl) (fun _ _ _ h => h) (Or.inl ⟨by first | kernel_rfl | rfl, ?_⟩) (by assumption) ?_; rotate_left; (focus (intro w' hSw; (try dsimp only at hSw); go_simp; try (with_reducible rfl))))
  (refine takeH (i := 20) (v := ?_) rfl (by kernel_rfl) (by kernel_rfl) (by kernel_rfl) (fun _ _ _ h => h) (Or.inl ⟨by first | kernel_rfl | rfl, ?_⟩) (by assumption) ?_; rotate_left; (focus (intro w' hSw; (try dsimp only at hSw); go_simp; try (with_reducible rfl))); (try simp only [Act.put, List.setIfInBounds_toArray, List.set_cons_zero, List.set_cons_succ]))
  refine twoH (i := 14) (j := 21) (by kernel_rfl) rfl rfl (fun Kc hK => ?o1) (fun Kc hK => ?o2)
  case' o1 =>
   have q11 := HQ.out _ HBD.out
   have lq := (HR.out _ (But.of_below HBD.out)).2.2.2.2.2.2.1
   go_simp
   refine hK.out _ _ (HR.out _ (But.of_below HBD.out)) (fun hHeld => ?_)
   clear hK Kc q11 lq
   (try simp only [Act.put, List.setIfInBounds_toArray, List.set_cons_zero, List.set_cons_succ])
   refine oneH (i := 21) (by kernel_rfl) rfl (fun Kc hK => ?_)
   go_simp
   go_at_call 44
   refine (HCM.out _).mono ?_
   rintro e w11 ⟨rfl, hb11⟩
   have HB11 := Lib.hid (HBD.out.trans (hb11.mono HBD.out.size))
   clear hb11
   go_wp2_with fail
   refine hK.out _ _ (HR.out _ (But.of_below HB11.out)) (fun hHeld => ?_)
   clear hK Kc
   (try simp only [Act.put, List.setIfInBounds_toArray, List.set_cons_zero, List.set_cons_succ])
   refine oneH (i := 22) (by kernel_rfl) rfl (fun Kc hK => ?_)
   go_simp
   have HB11a : Hid (Below w9.heap.size w9 (w11.alloc (.cells #[.int .i64 1, .int .i64 5, .int .i64 0, .int .i64 0, .int .i64 0, .int .i64 0, .int .i64 0] 50))) := Lib.hid (below_new HB11.out (Nat.le_refl _) _)
   refine hK.out _ (w11.alloc (.cells #[.int .i64 1, .int .i64 5, .int .i64 0, .int .i64 0, .int .i64 0, .int .i64 0, .int .i64 0] 50)) (HR.out _ (But.of_below HB11a.out)) (fun hHeld => ?_)
   clear hK Kc
   (try simp only [Act.put, List.setIfInBounds_toArray, List.set_cons_zero, List.set_cons_succ])
  case' o2 =>
   go_simp
   go_at_call 44
   refine (HCM.out _).mono ?_
   rintro e w11 ⟨rfl, hb11⟩
   have HB11 := Lib.hid (HBD.out.trans (hb11.mono HBD.out.size))
   clear hb11
   go_wp2_with fail
   refine hK.out _ _ (HR.out _ (But.of_below HB11.out)) (fun hHeld => ?_)
   clear hK Kc
   (try simp only [Act.put, List.setIfInBounds_toArray, List.set_cons_zero, List.set_cons_succ])
   refine twoH (i := 14) (j := 22) (by kernel_rfl) rfl rfl (fun Kc hK => ?o3) (fun Kc hK => ?o4)
  case' o3 =>
   have q11 := HQ.out _ HB11.out
   have lq := (HR.out _ (But.of_below HB11.out)).2.2.2.2.2.2.1
   go_simp
   refine hK.out _ _ (HR.out _ (But.of_below HB11.out)) (fun hHeld => ?_)
   clear hK Kc q11 lq
   (try simp only [Act.put, List.setIfInBounds_toArray, List.set_cons_zero, List.set_cons_succ])
   refine oneH (i := 22) (by kernel_rfl) rfl (fun Kc hK => ?_)
   go_simp
   have HB11a : Hid (Below w9.heap.size w9 (w11.alloc (.cells #[.int .i64 1, .int .i64 5, .int .i64 0, .int .i64 0, .int .i64 0, .int .i64 0, .int .i64 0] 50))) := Lib.hid (below_new HB11.out (Nat.le_refl _) _)
   refine hK.out _ (w11.alloc (.cells #[.int .i64 1, .int .i64 5, .int .i64 0, .int .i64 0, .int .i64 0, .int .i64 0, .int .i64 0] 50)) (HR.out _ (But.of_below HB11a.out)) (fun hHeld => ?_)
   clear hK Kc
   (try simp only [Act.put, List.setIfInBounds_toArray, List.set_cons_zero, List.set_cons_succ])
  case' o4 =>
   go_simp
   have HB11a : Hid (Below w9.heap.size w9 (w11.alloc (.cells #[.int .i64 1, .int .i64 5, .int .i64 0, .int .i64 0, .int .i64 0, .int .i64 0, .int .i64 0] 50))) := Lib.hid (below_new HB11.out (Nat.le_refl _) _)
   refine hK.out _ (w11.alloc (.cells #[.int .i64 1, .int .i64 5, .int .i64 0, .int .i64 0, .int .i64 0, .int .i64 0, .int .i64 0] 50)) (HR.out _ (But.of_below HB11a.out)) (fun hHeld => ?_)
   clear hK Kc
   (try simp only [Act.put, List.setIfInBounds_toArray, List.set_cons_zero, List.set_cons_succ])
   refine oneH (i := 14) (by kernel_rfl) rfl (fun Kc hK => ?_)
   have q11 := HQ.out _ HB11a.out
   have lq := (HR.out _ (But.of_below HB11a.out)).2.2.2.2.2.2.1
   go_simp
   refine hK.out _ _ (HR.out _ (But.of_below HB11a.out)) (fun hHeld => ?_)
   clear hK Kc q11 lq
   (try simp only [Act.put, List.setIfInBounds_toArray, List.set_cons_zero, List.set_cons_succ])
  all_goals
   refine oneH (i := 23) (by kernel_rfl) rfl (fun Kc hK => ?_)
   have hz11 := HB11.out.size
   refine step_append_lies _ rfl (.tmp 55) (.tmp 63) 46 rfl w9.heap.size 50 i0 z0 7 56 Tryd.underlying46 HI.out HZ0.out HS0.out HBB.out HZS.out (by decide) (.slice none 0 0) 0 [] rfl ⟨rfl, .inl ⟨rfl, rfl⟩⟩ ⟨w11.heap.size, 0, none⟩ 1 1 [.int .i64 1, .int .i64 5, .int .i64 0, .int .i64 0, .int .i64 0, .int .i64 0, .int .i64 0] rfl rfl ?c4 ?c6 (by decide) ?c1 ?c2 ?c3 (w11.heap.size + 1) ?c5 ?_
   case c4 =>
    intro j u hu
    have had : (⟨w11.heap.size, 0, none⟩ : Addr).add j = ⟨w11.heap.size, j, none⟩ := by cases j <;> simp [Addr.add]
    rw [had]
    exact heap_cell j _ (heap_alloc_new w11 _) (by rw [List.getElem?_toArray]; exact hu)
   case c6 => intro u hu; simp only [List.mem_cons, List.not_mem_nil, or_false] at hu; rcases hu with rfl | rfl | rfl | rfl | rfl | rfl | rfl <;> rfl
   case c1 => unfold maxLen; omega
   case c2 => omega
   case c3 => first | omega | (simp; omega)
   case c5 => simp
   intro hh kc w12 hown hgrow hatg hlt
   have HB12 : Hid (Below w9.heap.size w9 w12) := Lib.hid (below_grown HB11a.out hgrow (⟨rfl, .inl ⟨rfl, rfl⟩⟩ : World.ownsRow _ w9.heap.size 50 7 (.slice none 0 0) 0 []) (Nat.le_refl _) (by simp; omega))
   have HF : Hid (w12.cell? ⟨hh, 1, none⟩ = some (.int .i64 5) ∧ hh < w12.heap.size ∧ w9.heap.size ≤ hh ∧ 1 ≤ kc ∧ kc ≤ 9223372036854775807) := Lib.hid (by
    obtain ⟨A', c', hv', h1, h2, h3⟩ := own_form hown
    cases hv'
    unfold maxLen at h2
    exact ⟨owns_cellN hown rfl rfl, hlt, h3 hh 0 none rfl, by omega, by omega⟩)
   clear hown hgrow hatg hlt hz11
   refine hK.out _ _ (HR.out _ (But.of_below HB12.out)) (fun hHeld => ?_)
   clear hK Kc
   (try simp only [Act.put, List.setIfInBounds_toArray, List.set_cons_zero, List.set_cons_succ])
   (refine takeH (i := 24) (v := ?_) rfl (by kernel_rfl) (by kernel_rfl) (by kernel_rfl) (fun _ _ _ h => h) (Or.inl ⟨by first | kernel_rfl | rfl, ?_⟩) (by assumption) ?_; rotate_left; (focus (intro w' hSw; (try dsimp only at hSw); go_simp; try (with_reducible rfl))))
   (refine takeH (i := 25) (v := ?_) rfl (by kernel_rfl) (by kernel_rfl) (by kernel_rfl) (fun _ _ _ h => h) (Or.inl ⟨by first | kernel_rfl | rfl, ?_⟩) (by assumption) ?_; rotate_left; (focus (intro w' hSw; (try dsimp only at hSw); go_simp; try (with_reducible rfl))); (try simp only [Act.put, List.setIfInBounds_toArray, List.set_cons_zero, List.set_cons_succ]))
   have q11 := HQ.out _ HB12.out
   have qf11 : w12.frozen? ⟨qi, 11, none⟩ = false := (HB12.out.frozen (p := ⟨qi, 11, none⟩) HA9.out.lq).trans (HA9.out.qf 11)
   have lq := (HR.out _ (But.of_below HB12.out)).2.2.2.2.2.2.1
   refine oneH (i := 26) (by kernel_rfl) rfl (fun Kc hK => ?_)
   go_simp
   refine hK.out _ _ (HR.out _ ((But.of_below HB12.out).set 11 _)) (fun hHeld => ?_)
   clear hK Kc q11 qf11 lq
   (try simp only [Act.put, List.setIfInBounds_toArray, List.set_cons_zero, List.set_cons_succ])
   refine wpAnyH_done (by kernel_rfl) ?_ _
   (try simp only [Act.put, List.setIfInBounds_toArray, List.set_cons_zero, List.set_cons_succ])
   go_wp2_with fail
   go_meet
   case rel =>
    have hAS := (HA9.out.below HB12.out).putI (.slice (some ⟨hh, 0, none⟩) 1 kc)
    refine ⟨hh, kc, Lib.hid hAS, Lib.hid ⟨?_, by simpa [World.setCell] using HF.out.2.1⟩, Lib.hid ((HU9.out.trans (Buts.of_below HB12.out)).trans (Buts.of_but ((But.refl qi _).set 11 _) (.inr (.inr rfl)))), Lib.hid HF.out.2.2⟩
    rw [World.cell?_setCell_other _ _ _ _ (fun e => by injection e with e1 e2; have := HA9.out.lq; have := HF.out.2.2.1; omega)]
    exact HF.out.1
 case rest =>
  obtain ⟨hh, kc, HA20, HX20, HU20, HZ20⟩ := hcut
  clear HR HQ HCM HU9
  have HHB : Hid (¬ (hh = g ∨ hh = K ∨ hh = qi)) := Lib.hid (by
   have h1 := HA9.out.row.lt
   have h2 := HA9.out.lK
   have h3 := HA9.out.lq
   have h4 := HZ20.out.1
   omega)
  clear HA9
  have k1 := HA20.out.k1
  have kf := HA20.out.kf 1
  have lK := HA20.out.lK
  go_upto_region 14 with (fail)
  refine wp_name fun w21 hw => ?_
  have HA21 : Hid (AS w0 w w21 g K qi ci 2 (.slice (some ⟨hh, 0, none⟩) 1 kc) [0, 1, 0, 1, 0, 0, 0, 0, 1]) := Lib.hid (by rw [hw.out]; exact HA20.out.putK 2)
  have HU21 : Hid (Buts (fun b => b = g ∨ b = K ∨ b = qi) W w21) := Lib.hid (by rw [hw.out]; exact HU20.out.trans (Buts.of_but ((But.refl K _).set 1 _) (.inr (.inl rfl))))
  have HV21 : Hid (Buts (fun b => b = g ∨ b = K ∨ b = qi) wc w21) := Lib.hid (by rw [hw.out]; exact Buts.of_but ((But.refl K _).set 1 _) (.inr (.inl rfl)))
  clear hw k1 kf lK HA20 HU20
  obtain ⟨c0, c1, c2, lB⟩ := HC.out w21 HU21.out
  go_wp2_with fail
  refine (HA21.out.inner HT.out hc 0 (by decide)).mono ?_
  rintro e w22 ⟨rfl, hb⟩
  have HA22 := Lib.hid (HA21.out.below hb)
  have HU22 := Lib.hid (HU21.out.trans (Buts.of_below hb))
  have HV22 := Lib.hid (HV21.out.trans (Buts.of_below hb))
  clear hb c0 c1 c2 lB HA21 HU21 HV21
  have cz := HA22.out.row.cell 7 _ rfl
  have cf := HA22.out.row.free 7
  have lg := HA22.out.row.lt
  go_upto_region 15 with (fail)
  refine wp_name fun w23 hw => ?_
  have HA23 : Hid (AS w0 w w23 g K qi ci 2 (.slice (some ⟨hh, 0, none⟩) 1 kc) (_)) := Lib.hid (by rw [hw.out]; exact HA22.out.put 7 0)
  have HU23 : Hid (Buts (fun b => b = g ∨ b = K ∨ b = qi) W w23) := Lib.hid (by rw [hw.out]; exact HU22.out.trans (Buts.of_but ((But.refl g _).set 7 _) (.inl rfl)))
  have HV23 : Hid (Buts (fun b => b = g ∨ b = K ∨ b = qi) wc w23) := Lib.hid (by rw [hw.out]; exact HV22.out.trans (Buts.of_but ((But.refl g _).set 7 _) (.inl rfl)))
  clear hw cz cf lg HA22 HU22 HV22
  obtain ⟨c0, c1, c2, lB⟩ := HC.out w23 HU23.out
  go_wp2_with fail
  refine (HA23.out.inner HT.out hc 0 (by decide)).mono ?_
  rintro e w24 ⟨rfl, hb⟩
  have HA24 := Lib.hid (HA23.out.below hb)
  have HU24 := Lib.hid (HU23.out.trans (Buts.of_below hb))
  have HV24 := Lib.hid (HV23.out.trans (Buts.of_below hb))
  clear hb c0 c1 c2 lB HA23 HU23 HV23
  have cz := HA24.out.row.cell 7 _ rfl
  have cf := HA24.out.row.free 7
  have lg := HA24.out.row.lt
  go_upto_region 17 with (fail)
  refine wp_name fun w25 hw => ?_
  have HA25 : Hid (AS w0 w w25 g K qi ci 2 (.slice (some ⟨hh, 0, none⟩) 1 kc) (_)) := Lib.hid (by rw [hw.out]; exact HA24.out.put 7 1)
  have HU25 : Hid (Buts (fun b => b = g ∨ b = K ∨ b = qi) W w25) := Lib.hid (by rw [hw.out]; exact HU24.out.trans (Buts.of_but ((But.refl g _).set 7 _) (.inl rfl)))
  have HV25 : Hid (Buts (fun b => b = g ∨ b = K ∨ b = qi) wc w25) := Lib.hid (by rw [hw.out]; exact HV24.out.trans (Buts.of_but ((But.refl g _).set 7 _) (.inl rfl)))
  clear hw cz cf lg HA24 HU24 HV24
  obtain ⟨c0, c1, c2, lB⟩ := HC.out w25 HU25.out
  go_wp2
  refine bodyPost_end (results_none rfl _ _ _) rfl ⟨rfl, hh, kc, HA25.out, ?_, ?_, ?_, HZ20.out.2⟩
  ·exact (HV25.out.cell hh 1 HX20.out.2 HHB.out).trans HX20.out.1
  ·exact Nat.lt_of_lt_of_le HX20.out.2 HV25.out.size
  ·exact Nat.le_trans (by have := HS9.out; have := HB0.out; omega) HZ20.out.1

end Go.Proofs.YtknnhnefbbjcdaaDoor
