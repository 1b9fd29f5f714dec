/- Merged: Layer 27: a block's pins: by name, told, turned. Layer 27: a block's pins: get, set, the inner cells, its axis. Layer 27: the pins of motion blocks by number, in plain Lean. Layer 27: a block's inner cells, its axis, its first output. Layer 27: a block is told what became of its command. PRINTED by wip/tool/mkbl.py -/
import Derived.Test.YtknnhnefbbjcdaaDoorM45
import Derived.Test.YtknnhnefbbjcdaaDoorStdE
import Derived.Test.YtknnhnefbbjcdaaDoorM02
namespace Go.Proofs.YtknnhnefbbjcdaaDoor
open Go.RowKit
set_option linter.unusedVariables false
set_option linter.unusedSimpArgs false
attribute [local go_sem] ite_max ite_min vite_max vite_min ext_cell ext_frozen

def px (kind : Int) (nm : ByteArray) : Option Nat := (List.range (rcount kind)).find? fun k => (pinNm kind k).toList == nm.toList
def insV (i kind : Int) (A : Option Addr) (n c : Nat) : Value := .agg #[.int .i64 i, .int .i64 kind, .slice A n c]

theorem cf_bpin1 : ∀ (args : Array Value) (w : World), Sem.run Tryd.prog (callFunc 57 args) w = .ok (.enter 57 args) w := fun args w => by kernel_rfl
theorem cf_binner1 : ∀ (args : Array Value) (w : World), Sem.run Tryd.prog (callFunc 45 args) w = .ok (.enter 45 args) w := fun args w => by kernel_rfl

set_option maxHeartbeats 1000000 in
theorem bpin1_any (a : ByteArray) (t : Int) (b : Bool) (X : Nat) (nm : ByteArray) (w : World) (g0 : w.cell? ⟨X, 0, none⟩ = some (.string nm)) (lX : X < w.heap.size) :
  Calls Tryd.prog 57 (#[.agg #[.string a, .int .i64 t, .bool b]] ++ #[.pointer (some ⟨X, 0, none⟩)]) w fun e w' => e = .returned (.bool (a.toList == nm.toList)) ∧ Below w.heap.size w w' := by
 show Calls Tryd.prog 57 #[.agg #[.string a, .int .i64 t, .bool b], .pointer (some ⟨X, 0, none⟩)] w _
 go_enter Tryd.func57, Tryd.ntmps57
 go_wp2
 go_ret
 exact ⟨rfl, by exact belowBy⟩
theorem emptyQ (l : List UInt8) : l.isEmpty = (l == (⟨#[]⟩ : ByteArray).toList) := by
 rw [show (⟨#[]⟩ : ByteArray).toList = [] by first | rfl | decide | simp]
 cases l <;> rfl
set_option maxHeartbeats 1000000 in
theorem binner1_any (a : ByteArray) (t : Int) (b : Bool) (w : World) :
  Calls Tryd.prog 45 (#[.agg #[.string a, .int .i64 t, .bool b]] ++ #[]) w fun e w' => e = .returned (.bool (a.toList == (⟨#[]⟩ : ByteArray).toList)) ∧ Below w.heap.size w w' := by
 show Calls Tryd.prog 45 #[.agg #[.string a, .int .i64 t, .bool b]] w _
 go_enter Tryd.func45, Tryd.ntmps45
 go_wp2
 go_ret
 exact ⟨by rw [← emptyQ]; rfl, by exact belowBy⟩

set_option maxRecDepth 100000 in
set_option maxHeartbeats 2000000 in
theorem bpin_at (i kind : Int) (A : Option Addr) (n c : Nat) (nm : ByteArray) (w : World) (ht : Blanks w) : Calls Tryd.prog 40 #[insV i kind A n c, .string nm] w fun e w' => e = .returned (.int .i64 (ixV (px kind nm))) ∧ Below w.heap.size w w' := by
 show Calls Tryd.prog 40 #[.agg #[.int .i64 i, .int .i64 kind, .slice A n c], .string nm] w _
 obtain ⟨res, hres⟩ : ∃ r, px kind nm = r := ⟨_, rfl⟩
 have HRES := Lib.hid hres
 rw [hres]
 have HT := Lib.hid ht
 clear hres ht
 go_enter Tryd.func40, Tryd.ntmps40
 go_upto_region 1 with (fail)
 refine wp_name fun W hW => ?_
 obtain ⟨B, hB⟩ : ∃ B, B = w.heap.size := ⟨_, rfl⟩
 have hB1 : B + 1 = w.heap.size + 1 := by omega
 have c1 : W.cell? ⟨B, 1, none⟩ = some (.int .i64 kind) := by rw [hW.out, hB]; go_simp
 have HNM : Hid (∀ W', Below W.heap.size W W' → W'.cell? ⟨B + 1, 0, none⟩ = some (.string nm) ∧ B + 1 < W'.heap.size) := Lib.hid (fun W' hW' => by
  have hl : B + 1 < W.heap.size := by rw [hW.out, hB]; simp
  exact ⟨(hW'.cell (p := ⟨B + 1, 0, none⟩) hl).trans (by rw [hW.out, hB1]; go_simp), Nat.lt_of_lt_of_le hl hW'.size⟩)
 have hbel : Below w.heap.size w W := by rw [hW.out]; exact belowBy
 have lB : B < W.heap.size := by rw [hW.out, hB]; simp; omega
 have HB := Lib.hid hbel
 (try rw [show w.heap.size + 1 = B + 1 by omega]); (try rw [← hB])
 clear hW hbel hB hB1
 go_wp2_with fail
 refine (pins_rowK kind _ (HT.out.on HB.out)).mono ?_
 rintro e w1 ⟨⟨A1, c1', rfl, hnc, hc, hrow⟩, hb1⟩
 have HROW := Lib.hid hrow
 have HS1 := Lib.hid hb1
 have HB1 := Lib.hid (HB.out.trans (hb1.mono HB.out.size))
 clear hrow hb1 c1 lB
 go_wp2_with fail
 refine (ix_pin 57 _ (fun k => (pinNm kind k).toList == nm.toList) kind A1 c1' w1 ⟨hnc, hc⟩ HROW.out cf_bpin1 (fun k w' hw' => ?_)).mono ?_
 ·obtain ⟨g0, lg⟩ := HNM.out w' (HS1.out.trans (hw'.mono HS1.out.size))
  exact bpin1_any (pinNm kind k) (pinTy kind k) (pinIn kind k) (B + 1) nm w' g0 lg
 rintro e w4 ⟨rfl, hb4⟩
 have HB4 := Lib.hid (HB1.out.trans (hb4.mono HB1.out.size))
 rw [show (List.range (rcount kind)).find? (fun k => (pinNm kind k).toList == nm.toList) = res from HRES.out]
 clear hb4
 go_wp2
 go_ret
 exact ⟨rfl, HB4.out⟩

theorem Row.set {w : World} {g : Nat} {zs : List Int} (h : Row w g zs) (j : Nat) (x : Int) : Row (w.setCell ⟨g, j, none⟩ (.int .i64 x)) g (zs.set j x) := by
 refine ⟨by simpa using h.lt, fun q z hz => ?_, fun o => ?_⟩
 ·rw [List.getElem?_set] at hz
  by_cases he : j = q
  ·subst he
   rw [if_pos rfl] at hz
   split at hz
   ·cases hz
    rename_i hl
    have := h.cell j _ (List.getElem?_eq_getElem hl)
    go_simp
   ·cases hz
  ·rw [if_neg he] at hz
   rw [World.cell?_setCell_other _ _ _ _ (fun hh => by injection hh with h1 h2; exact he h2)]
   exact h.cell q z hz
 ·rw [show (w.setCell ⟨g, j, none⟩ (.int .i64 x)).frozen? ⟨g, o, none⟩ = w.frozen? ⟨g, o, none⟩ by go_simp]
  exact h.free o

end Go.Proofs.YtknnhnefbbjcdaaDoor

namespace Go.Proofs.YtknnhnefbbjcdaaDoor
open Go.RowKit
set_option linter.unusedVariables false
set_option linter.unusedSimpArgs false
attribute [local go_sem] ite_max ite_min vite_max vite_min ext_cell ext_frozen

set_option maxRecDepth 100000 in
set_option maxHeartbeats 2000000 in
theorem bget_at (i kind : Int) (g off n c : Nat) (zs : List Int) (nm : ByteArray) (k : Nat) (z : Int) (w : World) (ht : Blanks w) (hr : Row w g zs) (hk : px kind nm = some k) (hkn : k < n) (hnc : n ≤ c ∧ c ≤ 9223372036854775807) (hz : zs[off + k]? = some z) :
  Calls Tryd.prog 19 #[insV i kind (some ⟨g, off, none⟩) n c, .string nm] w fun e w' => e = .returned (.int .i64 z) ∧ Below w.heap.size w w' := by
 have HPIN0 : Hid (∀ W, Below w.heap.size w W → Calls Tryd.prog 40 #[.agg #[.int .i64 i, .int .i64 kind, .slice (some ⟨g, off, none⟩) n c], .string nm] W fun e w' => e = .returned (.int .i64 (k : Int)) ∧ Below W.heap.size W w') := Lib.hid (fun W hW => by
  have := bpin_at i kind (some ⟨g, off, none⟩) n c nm W (ht.on hW)
  rw [hk] at this
  exact this)
 show Calls Tryd.prog 19 #[.agg #[.int .i64 i, .int .i64 kind, .slice (some ⟨g, off, none⟩) n c], .string nm] w _
 have hcz := hr.cell (off + k) z hz
 have hgl := hr.lt
 have hk0 : (0 : Int) ≤ (k : Int) ∧ (k : Int) < (n : Int) := by omega
 have HCZ := Lib.hid hcz
 clear hr hk ht hz hcz
 go_enter Tryd.func19, Tryd.ntmps19
 go_upto_region 1 with (fail)
 refine wp_name fun W hW => ?_
 obtain ⟨B, hB⟩ : ∃ B, B = w.heap.size := ⟨_, rfl⟩
 have c0 : W.cell? ⟨B, 0, none⟩ = some (.int .i64 i) := by rw [hW.out, hB]; go_simp
 have c1 : W.cell? ⟨B, 1, none⟩ = some (.int .i64 kind) := by rw [hW.out, hB]; go_simp
 have c2 : W.cell? ⟨B, 2, none⟩ = some (.slice (some ⟨g, off, none⟩) n c) := by rw [hW.out, hB]; go_simp
 have hbel : Below w.heap.size w W := by rw [hW.out]; exact belowBy
 have lB : B < W.heap.size := by rw [hW.out, hB]; simp
 have cz : W.cell? ⟨g, off + k, none⟩ = some (.int .i64 z) := (hbel.cell (p := ⟨g, off + k, none⟩) hgl).trans HCZ.out
 have lg : g < W.heap.size := Nat.lt_of_lt_of_le hgl hbel.size
 have HB := Lib.hid hbel
 have HPIN := Lib.hid (fun W' (h : Below W.heap.size W W') => HPIN0.out W' (hbel.trans (h.mono hbel.size)))
 (try rw [← hB])
 clear hW hbel hB hgl HPIN0
 refine wp_region_ext (by kernel_rfl) (by kernel_rfl) ?_
 repeat (go_big_quiet_step ((go_at_call 40; exact ext_call (HPIN.out _ (ext_below ⟨_, rfl⟩)))))
 refine wpQuiet_nil ?_
 intro w2 hb2
 replace hb2 := ext_below hb2
 have HBW := Lib.hid (HB.out.trans (hb2.mono HB.out.size))
 clear hb2
 go_wp2
 go_ret
 exact ⟨rfl, HBW.out⟩

set_option maxRecDepth 100000 in
set_option maxHeartbeats 2000000 in
theorem bset_at (i kind : Int) (g off n c : Nat) (zs : List Int) (nm : ByteArray) (k : Nat) (b : Bool) (w : World) (ht : Blanks w) (hr : Row w g zs) (hk : px kind nm = some k) (hkn : k < n) (hnc : n ≤ c ∧ c ≤ 9223372036854775807) (hz : off + n ≤ zs.length) :
  Calls Tryd.prog 43 #[insV i kind (some ⟨g, off, none⟩) n c, .string nm, .bool b] w fun e w' => e = .returned (.tuple #[]) ∧ But g w w' ∧ Row w' g (zs.set (off + k) (bif b then 1 else 0)) := by
 have HPIN0 : Hid (∀ W, Below w.heap.size w W → Calls Tryd.prog 40 #[.agg #[.int .i64 i, .int .i64 kind, .slice (some ⟨g, off, none⟩) n c], .string nm] W fun e w' => e = .returned (.int .i64 (k : Int)) ∧ Below W.heap.size W w') := Lib.hid (fun W hW => by
  have := bpin_at i kind (some ⟨g, off, none⟩) n c nm W (ht.on hW)
  rw [hk] at this
  exact this)
 show Calls Tryd.prog 43 #[.agg #[.int .i64 i, .int .i64 kind, .slice (some ⟨g, off, none⟩) n c], .string nm, .bool b] w _
 obtain ⟨z, hzz⟩ : ∃ z, zs[off + k]? = some z := ⟨_, List.getElem?_eq_getElem (by omega)⟩
 have HR := Lib.hid hr
 have hgl := hr.lt
 have hk0 : (0 : Int) ≤ (k : Int) ∧ (k : Int) < (n : Int) := by omega
 have HZ := Lib.hid hzz
 clear hr hk ht hz hzz
 cases b
 all_goals
  go_enter Tryd.func43, Tryd.ntmps43
  go_upto_region 4 with (fail)
  refine wp_name fun W hW => ?_
  obtain ⟨B, hB⟩ : ∃ B, B = w.heap.size := ⟨_, rfl⟩
  have c0 : W.cell? ⟨B, 0, none⟩ = some (.int .i64 i) := by rw [hW.out, hB]; go_simp
  have c1 : W.cell? ⟨B, 1, none⟩ = some (.int .i64 kind) := by rw [hW.out, hB]; go_simp
  have c2 : W.cell? ⟨B, 2, none⟩ = some (.slice (some ⟨g, off, none⟩) n c) := by rw [hW.out, hB]; go_simp
  have hbel : Below w.heap.size w W := by rw [hW.out]; exact belowBy
  have lB : B < W.heap.size := by rw [hW.out, hB]; simp
  have HB := Lib.hid hbel
  have HPIN := Lib.hid (fun W' (h : Below W.heap.size W W') => HPIN0.out W' (hbel.trans (h.mono hbel.size)))
  (try rw [← hB])
  clear hW hbel hB HPIN0
  refine wp_region_ext_tail 7 (by kernel_rfl) (by kernel_rfl) ?_
  simp only [List.take_succ_cons, List.take_zero, List.drop_succ_cons, List.drop_zero]
  repeat (go_big_quiet_step ((go_at_call 40; exact ext_call (HPIN.out _ (ext_below ⟨_, rfl⟩)))))
  refine wpQuiet_nil ?_
  intro w2 hb2
  replace hb2 := ext_below hb2
  have hbw' := HB.out.trans (hb2.mono HB.out.size)
  have HR' := Lib.hid (HR.out.below hbw')
  have cz : w2.cell? ⟨g, off + k, none⟩ = some (.int .i64 z) := HR'.out.cell _ _ HZ.out
  have cf : w2.frozen? ⟨g, off + k, none⟩ = false := HR'.out.free _
  have HBW := Lib.hid hbw'
  clear hb2 hbw' c0 c1 c2
  go_wp2
  refine bodyPost_end (results_none rfl _ _ _) rfl ⟨rfl, (But.of_below HBW.out).set _ _, HR'.out.set _ _⟩

end Go.Proofs.YtknnhnefbbjcdaaDoor

namespace Go.Proofs.YtknnhnefbbjcdaaDoor
open Go.RowKit
set_option linter.unusedVariables false
set_option linter.unusedSimpArgs false

def nmAxis : ByteArray := ⟨#[65, 120, 105, 115]⟩
def nmBusy : ByteArray := ⟨#[66, 117, 115, 121]⟩
def nmActive : ByteArray := ⟨#[65, 99, 116, 105, 118, 101]⟩
def nmDone : ByteArray := ⟨#[68, 111, 110, 101]⟩
def nmError : ByteArray := ⟨#[69, 114, 114, 111, 114]⟩
def nmAborted : ByteArray := ⟨#[67, 111, 109, 109, 97, 110, 100, 65, 98, 111, 114, 116, 101, 100]⟩
def nmInVel : ByteArray := ⟨#[73, 110, 86, 101, 108, 111, 99, 105, 116, 121]⟩
def nmInGear : ByteArray := ⟨#[73, 110, 71, 101, 97, 114]⟩
def nmStatus : ByteArray := ⟨#[83, 116, 97, 116, 117, 115]⟩
def nmVel : ByteArray := ⟨#[86, 101, 108, 111, 99, 105, 116, 121]⟩
def nmExecute : ByteArray := ⟨#[69, 120, 101, 99, 117, 116, 101]⟩
def firstN (kind : Int) : ByteArray := if kind = 27 then nmInVel else if kind = 28 then nmInGear else nmDone
def outsN (kind : Int) : Nat := ((List.range (rcount kind)).takeWhile fun k => pinIn kind k).length
structure CmdK (kind : Int) : Prop where
 cnt : rcount kind = outsN kind + 7
 two : 2 ≤ outsN kind
 axis : px kind nmAxis = some 0
 exec : px kind nmExecute = some 1
 first : px kind (firstN kind) = some (outsN kind)
 busy : px kind nmBusy = some (outsN kind + 1)
 active : px kind nmActive = some (outsN kind + 2)
 aborted : px kind nmAborted = some (outsN kind + 3)
 error : px kind nmError = some (outsN kind + 4)
 inner : px kind ⟨#[]⟩ = some (outsN kind + 5)
theorem cmdK {kind : Int} (h : 21 ≤ kind ∧ kind ≤ 28) : CmdK kind := by
 rcases (show kind = 21 ∨ kind = 22 ∨ kind = 23 ∨ kind = 24 ∨ kind = 25 ∨ kind = 26 ∨ kind = 27 ∨ kind = 28 by omega) with rfl | rfl | rfl | rfl | rfl | rfl | rfl | rfl
 all_goals exact ⟨by kernel_rfl, by decide +kernel, by kernel_rfl, by kernel_rfl, by kernel_rfl, by kernel_rfl, by kernel_rfl, by kernel_rfl, by kernel_rfl, by kernel_rfl⟩
theorem px_27_vel : px 27 nmVel = some 2 := by kernel_rfl
structure OthK : Prop where
 c20 : rcount 20 = 4
 c29 : rcount 29 = 5
 c30 : rcount 30 = 6
 c31 : rcount 31 = 4
 a20 : px 20 nmAxis = some 0
 a29 : px 29 nmAxis = some 0
 a30 : px 30 nmAxis = some 0
 a31 : px 31 nmAxis = some 0
 s20 : px 20 nmStatus = some 2
 e20 : px 20 nmError = some 3
 d29 : px 29 nmDone = some 2
 e29 : px 29 nmError = some 3
 i29 : px 29 ⟨#[]⟩ = some 4
 d30 : px 30 nmDone = some 3
 e30 : px 30 nmError = some 4
theorem othK : OthK := ⟨by kernel_rfl, by kernel_rfl, by kernel_rfl, by kernel_rfl, by kernel_rfl, by kernel_rfl, by kernel_rfl, by kernel_rfl, by kernel_rfl, by kernel_rfl, by kernel_rfl, by kernel_rfl, by kernel_rfl, by kernel_rfl, by kernel_rfl⟩

end Go.Proofs.YtknnhnefbbjcdaaDoor

namespace Go.Proofs.YtknnhnefbbjcdaaDoor
open Go.RowKit
set_option linter.unusedVariables false
set_option linter.unusedSimpArgs false
attribute [local go_sem] ite_max ite_min vite_max vite_min ext_cell ext_frozen extS_cell extS_frozen

set_option maxRecDepth 100000 in
set_option maxHeartbeats 2000000 in
theorem binner_at (i kind : Int) (g off n c m f : Nat) (w : World) (ht : Blanks w) (hk : px kind ⟨#[]⟩ = some f) (hf : f + m < n) (hnc : n ≤ c ∧ c ≤ 9223372036854775807) :
  Calls Tryd.prog 25 #[insV i kind (some ⟨g, off, none⟩) n c, .int .i64 m] w fun e w' => e = .returned (.pointer (some ⟨g, off + (f + m), none⟩)) ∧ Below w.heap.size w w' := by
 show Calls Tryd.prog 25 #[.agg #[.int .i64 i, .int .i64 kind, .slice (some ⟨g, off, none⟩) n c], .int .i64 m] w _
 have HK := Lib.hid hk
 have HT := Lib.hid ht
 have hfm : (0 : Int) ≤ (f : Int) + (m : Int) ∧ (f : Int) + (m : Int) < (n : Int) := by omega
 clear hk ht
 go_enter Tryd.func25, Tryd.ntmps25
 go_upto_region 1 with (fail)
 refine wp_name fun W hW => ?_
 obtain ⟨B, hB⟩ : ∃ B, B = w.heap.size := ⟨_, rfl⟩
 have c1 : W.cell? ⟨B, 1, none⟩ = some (.int .i64 kind) := by rw [hW.out, hB]; go_simp
 have HC : Hid (∀ W', Below W.heap.size W W' → W'.cell? ⟨B, 2, none⟩ = some (.slice (some ⟨g, off, none⟩) n c) ∧ B < W'.heap.size) := Lib.hid (fun W' hW' => by
  have hl : B < W.heap.size := by rw [hW.out, hB]; simp
  exact ⟨(hW'.cell (p := ⟨B, 2, none⟩) hl).trans (by rw [hW.out, hB]; go_simp), Nat.lt_of_lt_of_le hl hW'.size⟩)
 have hbel : Below w.heap.size w W := by rw [hW.out]; exact belowBy
 have lB : B < W.heap.size := by rw [hW.out, hB]; simp
 have HB := Lib.hid hbel
 (try rw [← hB])
 clear hW hbel hB
 go_wp2_with fail
 refine (pins_rowK kind _ (HT.out.on HB.out)).mono ?_
 rintro e w1 ⟨⟨A1, c1', rfl, hnc1, hc, hrow⟩, hb1⟩
 have HROW := Lib.hid hrow
 have HS1 := Lib.hid hb1
 have HB1 := Lib.hid (HB.out.trans (hb1.mono HB.out.size))
 clear hrow hb1 c1 lB
 go_wp2_with fail
 refine (ix_pin 45 #[] (fun k => (pinNm kind k).toList == (⟨#[]⟩ : ByteArray).toList) kind A1 c1' w1 ⟨hnc1, hc⟩ HROW.out cf_binner1 (fun k w' hw' => binner1_any (pinNm kind k) (pinTy kind k) (pinIn kind k) w')).mono ?_
 rintro e w4 ⟨rfl, hb4⟩
 have HB4 := Lib.hid (HB1.out.trans (hb4.mono HB1.out.size))
 obtain ⟨c2, lB⟩ := HC.out w4 (HS1.out.trans (hb4.mono HS1.out.size))
 rw [show (List.range (rcount kind)).find? (fun k => (pinNm kind k).toList == (⟨#[]⟩ : ByteArray).toList) = some f from HK.out]
 clear hb4
 show _
 simp only [ixV]
 go_wp2
 go_ret
 exact ⟨by first | rfl | (congr 4; omega), HB4.out⟩

def axN (z : Int) : Int := max 0 (min z 4)
def axOk (z : Int) (axes : Int) : Bool := decide (0 ≤ z) && decide (z < axes)
set_option maxRecDepth 100000 in
set_option maxHeartbeats 2000000 in
theorem baxis_at (i kind : Int) (g off n c : Nat) (zs : List Int) (z axes : Int) (w : World) (ht : Blanks w) (hr : Row w g zs) (hk : px kind nmAxis = some 0) (hkn : 0 < n) (hnc : n ≤ c ∧ c ≤ 9223372036854775807) (hz : zs[off]? = some z) :
  Calls Tryd.prog 18 #[insV i kind (some ⟨g, off, none⟩) n c, .int .i64 axes] w fun e w' => e = .returned (.tuple #[.int .i64 (axN z), .bool (axOk z axes)]) ∧ Below w.heap.size w w' := by
 have HG : Hid (∀ W, Below w.heap.size w W → Calls Tryd.prog 19 #[.agg #[.int .i64 i, .int .i64 kind, .slice (some ⟨g, off, none⟩) n c], .string ⟨#[65, 120, 105, 115]⟩] W fun e w' => e = .returned (.int .i64 z) ∧ Below W.heap.size W w') := Lib.hid (fun W hW => bget_at i kind g off n c zs nmAxis 0 z W (ht.on hW) (hr.below hW) hk hkn hnc (by simpa using hz))
 show Calls Tryd.prog 18 #[.agg #[.int .i64 i, .int .i64 kind, .slice (some ⟨g, off, none⟩) n c], .int .i64 axes] w _
 unfold axN axOk
 clear ht hr hk hz
 go_enter Tryd.func18, Tryd.ntmps18
 go_wp2_with fail
 refine (HG.out _ (by exact belowBy)).mono ?_
 rintro e w1 ⟨rfl, hb1⟩
 have hbw : Below w.heap.size w w1 := by exact belowBy
 clear hb1
 by_cases h0 : 0 ≤ z
 ·go_wp2
  refine bodyPost_ret (v := .tuple #[.int .i64 (max 0 (min z 4)), .bool (decide (z < axes))]) (by simp [results, Tryd.results18, go_sem]) rfl ⟨by rw [decide_eq_true h0]; rfl, hbw⟩
 ·go_wp2
  refine bodyPost_ret (v := .tuple #[.int .i64 (max 0 (min z 4)), .bool false]) (by simp [results, Tryd.results18, go_sem]) rfl ⟨by rw [decide_eq_false (show ¬ 0 ≤ z by omega)]; rfl, hbw⟩

set_option maxRecDepth 100000 in
set_option maxHeartbeats 2000000 in
theorem bfirst_at (i kind : Int) (A : Option Addr) (n c : Nat) (w : World) : Calls Tryd.prog 46 #[insV i kind A n c] w fun e w' => e = .returned (.string (firstN kind)) ∧ Below w.heap.size w w' := by
 show Calls Tryd.prog 46 #[.agg #[.int .i64 i, .int .i64 kind, .slice A n c]] w _
 by_cases h27 : kind = 27
 ·subst h27
  go_enter Tryd.func46, Tryd.ntmps46
  go_wp2
  go_ret
  exact ⟨rfl, by exact belowBy⟩
 by_cases h28 : kind = 28
 ·subst h28
  go_enter Tryd.func46, Tryd.ntmps46
  go_wp2
  go_ret
  exact ⟨rfl, by exact belowBy⟩
 ·have u1 : (kind == 27) = false := by simp [h27]
  have u2 : (kind == 28) = false := by simp [h28]
  have hf : firstN kind = ⟨#[68, 111, 110, 101]⟩ := by unfold firstN; rw [if_neg h27, if_neg h28]; rfl
  rw [hf]
  clear hf
  go_enter Tryd.func46, Tryd.ntmps46
  go_wp2
  go_ret
  exact ⟨rfl, by exact belowBy⟩

end Go.Proofs.YtknnhnefbbjcdaaDoor

namespace Go.Proofs.YtknnhnefbbjcdaaDoor
open Go.RowKit
set_option linter.unusedVariables false
set_option linter.unusedSimpArgs false
attribute [local go_sem] ite_max ite_min vite_max vite_min ext_cell ext_frozen

def toldP (kind : Int) (off : Nat) (what : Int) (zs : List Int) : List Int :=
 if what = 1 then zs.set (off + (outsN kind + 2)) 1
 else if 2 ≤ what ∧ what ≤ 5 then
  (if what = 2 then (if kind < 27 then (((zs.set (off + (outsN kind + 1)) 0).set (off + (outsN kind + 2)) 0).set (off + (outsN kind + 5 + 1)) 0).set (off + (outsN kind)) 1 else ((zs.set (off + (outsN kind + 1)) 0).set (off + (outsN kind + 2)) 0).set (off + (outsN kind + 5 + 1)) 0)
  else if what = 3 then (((zs.set (off + (outsN kind + 1)) 0).set (off + (outsN kind + 2)) 0).set (off + (outsN kind + 5 + 1)) 0).set (off + (outsN kind + 3)) 1 else (((zs.set (off + (outsN kind + 1)) 0).set (off + (outsN kind + 2)) 0).set (off + (outsN kind + 5 + 1)) 0).set (off + (outsN kind + 4)) 1)
 else zs
structure InS (w0 w W : World) (B : Nat) (i kind : Int) (g off n c : Nat) (zs : List Int) : Prop where
 c0 : W.cell? ⟨B, 0, none⟩ = some (.int .i64 i)
 c1 : W.cell? ⟨B, 1, none⟩ = some (.int .i64 kind)
 c2 : W.cell? ⟨B, 2, none⟩ = some (.slice (some ⟨g, off, none⟩) n c)
 lt : B < W.heap.size
 ne : B ≠ g
 row : Row W g zs
 but : But g w W
 low : w0.heap.size ≤ g
 old : Below w0.heap.size w0 W
section
variable {w0 w W W' : World} {B g off n c : Nat} {i kind : Int} {zs zs' : List Int}
theorem InS.ins (h : InS w0 w W B i kind g off n c zs) : W.cell? ⟨B, 0, none⟩ = some (.int .i64 i) ∧ W.cell? ⟨B, 1, none⟩ = some (.int .i64 kind) ∧ W.cell? ⟨B, 2, none⟩ = some (.slice (some ⟨g, off, none⟩) n c) ∧ B < W.heap.size := ⟨h.c0, h.c1, h.c2, h.lt⟩
theorem InS.next (h : InS w0 w W B i kind g off n c zs) (hb : But g W W') (hr : Row W' g zs') : InS w0 w W' B i kind g off n c zs' :=
 ⟨(hb.cell B 0 h.lt h.ne).trans h.c0, (hb.cell B 1 h.lt h.ne).trans h.c1, (hb.cell B 2 h.lt h.ne).trans h.c2, Nat.lt_of_lt_of_le h.lt hb.size, h.ne, hr, h.but.trans hb, h.low, h.old.trans (hb.below _ h.low h.old.size)⟩
theorem InS.below (h : InS w0 w W B i kind g off n c zs) (hb : Below W.heap.size W W') : InS w0 w W' B i kind g off n c zs := h.next (But.of_below hb) (h.row.below hb)
theorem InS.put (h : InS w0 w W B i kind g off n c zs) (k : Nat) (v : Int) : InS w0 w (W.setCell ⟨g, k, none⟩ (.int .i64 v)) B i kind g off n c (zs.set k v) := h.next ((But.refl g W).set k _) (h.row.set k v)
theorem InS.start (ht : Below w0.heap.size w0 w) (hl : w0.heap.size ≤ g) (hr : Row w g zs) (hh : W.heap[w.heap.size]? = some (.cells #[.int .i64 i, .int .i64 kind, .slice (some ⟨g, off, none⟩) n c] 68)) (hb : Below w.heap.size w W) : InS w0 w W w.heap.size i kind g off n c zs :=
 ⟨heap_cell 0 _ hh rfl, heap_cell 1 _ hh rfl, heap_cell 2 _ hh rfl, (Array.getElem?_eq_some_iff.1 hh).1, fun e => by have := hr.lt; omega, hr.below hb, But.of_below hb, hl, ht.trans (hb.mono ht.size)⟩
theorem InS.set (ht : Blanks w0) (h : InS w0 w W B i kind g off n c zs) (hc : n ≤ c ∧ c ≤ 9223372036854775807) (hz : off + n ≤ zs.length) (nm : ByteArray) (k : Nat) (b : Bool) (hk : px kind nm = some k) (hkn : k < n) :
  Calls Tryd.prog 43 #[.agg #[.int .i64 i, .int .i64 kind, .slice (some ⟨g, off, none⟩) n c], .string nm, .bool b] W fun e w' => e = .returned (.tuple #[]) ∧ But g W w' ∧ Row w' g (zs.set (off + k) (bif b then 1 else 0)) :=
 bset_at i kind g off n c zs nm k b W (ht.on h.old) h.row hk hkn hc hz
theorem InS.inner (ht : Blanks w0) (h : InS w0 w W B i kind g off n c zs) (hc : n ≤ c ∧ c ≤ 9223372036854775807) (m f : Nat) (hk : px kind ⟨#[]⟩ = some f) (hf : f + m < n) :
  Calls Tryd.prog 25 #[.agg #[.int .i64 i, .int .i64 kind, .slice (some ⟨g, off, none⟩) n c], .int .i64 m] W fun e w' => e = .returned (.pointer (some ⟨g, off + (f + m), none⟩)) ∧ Below W.heap.size W w' :=
 binner_at i kind g off n c m f W (ht.on h.old) hk hf hc
end
structure ToldIn (i kind : Int) (g off c : Nat) (zs : List Int) (w0 w : World) : Prop where
 cmd : 21 ≤ kind ∧ kind ≤ 28
 cap : outsN kind + 7 ≤ c ∧ c ≤ 9223372036854775807
 len : off + (outsN kind + 7) ≤ zs.length
 tab : Blanks w0
 old : Below w0.heap.size w0 w
 low : w0.heap.size ≤ g
 row : Row w g zs

set_option maxRecDepth 100000 in
set_option maxHeartbeats 2000000 in
theorem btold1 (i kind : Int) (g off c : Nat) (zs : List Int) (what : Int) (w0 w : World) (h : ToldIn i kind g off c zs w0 w) (hw : what = 1) :
  Calls Tryd.prog 26 #[insV i kind (some ⟨g, off, none⟩) (outsN kind + 7) c, .int .i64 what] w fun e w' => e = .returned (.tuple #[]) ∧ But g w w' ∧ Row w' g (toldP kind off what zs) := by
 show Calls Tryd.prog 26 #[.agg #[.int .i64 i, .int .i64 kind, .slice (some ⟨g, off, none⟩) (outsN kind + 7) c], .int .i64 what] w _
 obtain rfl : what = 1 := hw
 have HEQ : Hid (toldP kind off 1 zs = zs.set (off + (outsN kind + 2)) 1) := Lib.hid (by unfold toldP; rw [if_pos rfl])
 have HK := Lib.hid (cmdK h.cmd)
 have hcap := h.cap
 have hlen := h.len
 have HT := Lib.hid h.tab
 have HH := Lib.hid h
 clear h
 go_enter Tryd.func26, Tryd.ntmps26
 go_upto_region 1 with (fail)
 refine wp_name fun W hW => ?_
 obtain ⟨B, hB⟩ : ∃ B, B = w.heap.size := ⟨_, rfl⟩
 have HSW : Hid (InS w0 w W B i kind g off (outsN kind + 7) c zs) := Lib.hid (by rw [hB]; exact InS.start HH.out.old HH.out.low HH.out.row (by rw [hW.out]; exact heap_alloc_new _ _) (by rw [hW.out]; exact belowBy))
 (try rw [← hB])
 clear hW hB
 obtain ⟨c0, c1, c2, lB⟩ := HSW.out.ins
 go_wp2_with fail
 refine (HSW.out.set HT.out hcap (by (try simp only [List.length_set]); omega) nmActive (outsN kind + 2) true HK.out.active (by omega)).mono ?_
 rintro e w1 ⟨rfl, hbt, hrw⟩
 have HSw1 := Lib.hid (HSW.out.next hbt hrw)
 clear hbt hrw c0 c1 c2 lB
 obtain ⟨c0, c1, c2, lB⟩ := HSw1.out.ins
 go_wp2
 refine bodyPost_ret (results_none rfl _ _ _) rfl ⟨rfl, HSw1.out.but, ?_⟩
 rw [HEQ.out]
 exact HSw1.out.row

set_option maxRecDepth 100000 in
set_option maxHeartbeats 2000000 in
theorem btold2d (i kind : Int) (g off c : Nat) (zs : List Int) (what : Int) (w0 w : World) (h : ToldIn i kind g off c zs w0 w) (hw : what = 2) (hk : kind < 27) :
  Calls Tryd.prog 26 #[insV i kind (some ⟨g, off, none⟩) (outsN kind + 7) c, .int .i64 what] w fun e w' => e = .returned (.tuple #[]) ∧ But g w w' ∧ Row w' g (toldP kind off what zs) := by
 show Calls Tryd.prog 26 #[.agg #[.int .i64 i, .int .i64 kind, .slice (some ⟨g, off, none⟩) (outsN kind + 7) c], .int .i64 what] w _
 obtain rfl : what = 2 := hw
 have HEQ : Hid (toldP kind off 2 zs = (((zs.set (off + (outsN kind + 1)) 0).set (off + (outsN kind + 2)) 0).set (off + (outsN kind + 5 + 1)) 0).set (off + (outsN kind)) 1) := Lib.hid (by unfold toldP; rw [if_neg (by decide), if_pos (by decide), if_pos rfl, if_pos hk])
 have HFN : Hid (firstN kind = ⟨#[68, 111, 110, 101]⟩) := Lib.hid (by unfold firstN; rw [if_neg (by omega), if_neg (by omega)]; rfl)
 have HDN : Hid (px kind nmDone = some (outsN kind)) := Lib.hid (by have := (cmdK h.cmd).first; unfold firstN at this; rwa [if_neg (by omega), if_neg (by omega)] at this)
 have HK := Lib.hid (cmdK h.cmd)
 have hcap := h.cap
 have hlen := h.len
 have HT := Lib.hid h.tab
 have HH := Lib.hid h
 clear h
 go_enter Tryd.func26, Tryd.ntmps26
 go_upto_region 1 with (fail)
 refine wp_name fun W hW => ?_
 obtain ⟨B, hB⟩ : ∃ B, B = w.heap.size := ⟨_, rfl⟩
 have HSW : Hid (InS w0 w W B i kind g off (outsN kind + 7) c zs) := Lib.hid (by rw [hB]; exact InS.start HH.out.old HH.out.low HH.out.row (by rw [hW.out]; exact heap_alloc_new _ _) (by rw [hW.out]; exact belowBy))
 (try rw [← hB])
 clear hW hB
 obtain ⟨c0, c1, c2, lB⟩ := HSW.out.ins
 go_wp2_with fail
 refine (bfirst_at i kind (some ⟨g, off, none⟩) (outsN kind + 7) c W).mono ?_
 rintro e wf ⟨rfl, hbf⟩
 have HSwf := Lib.hid (HSW.out.below hbf)
 clear hbf c0 c1 c2 lB
 obtain ⟨c0, c1, c2, lB⟩ := HSwf.out.ins
 rw [HFN.out]
 go_wp2_with fail
 refine (HSwf.out.set HT.out hcap (by (try simp only [List.length_set]); omega) nmBusy (outsN kind + 1) false HK.out.busy (by omega)).mono ?_
 rintro e w1 ⟨rfl, hbt, hrw⟩
 have HSw1 := Lib.hid (HSwf.out.next hbt hrw)
 clear hbt hrw c0 c1 c2 lB
 obtain ⟨c0, c1, c2, lB⟩ := HSw1.out.ins
 go_wp2_with fail
 refine (HSw1.out.set HT.out hcap (by (try simp only [List.length_set]); omega) nmActive (outsN kind + 2) false HK.out.active (by omega)).mono ?_
 rintro e w2 ⟨rfl, hbt, hrw⟩
 have HSw2 := Lib.hid (HSw1.out.next hbt hrw)
 clear hbt hrw c0 c1 c2 lB
 obtain ⟨c0, c1, c2, lB⟩ := HSw2.out.ins
 go_wp2_with fail
 refine (HSw2.out.inner HT.out hcap 1 (outsN kind + 5) HK.out.inner (by omega)).mono ?_
 rintro e wi ⟨rfl, hbi⟩
 have HSi := Lib.hid (HSw2.out.below hbi)
 obtain ⟨z6, hz6⟩ : ∃ z, (((zs.set (off + (outsN kind + 1)) 0).set (off + (outsN kind + 2)) 0))[off + (outsN kind + 5 + 1)]? = some z := ⟨_, List.getElem?_eq_getElem (by (try simp only [List.length_set]); omega)⟩
 have cz : wi.cell? ⟨g, off + (outsN kind + 5 + 1), none⟩ = some (.int .i64 z6) := HSi.out.row.cell _ _ hz6
 have cf : wi.frozen? ⟨g, off + (outsN kind + 5 + 1), none⟩ = false := HSi.out.row.free _
 have lgi : g < wi.heap.size := HSi.out.row.lt
 clear hbi c0 c1 c2 lB hz6
 go_upto_region 16 with (fail)
 refine wp_name fun w3 hw3 => ?_
 have HSw3 : Hid (InS w0 w w3 B i kind g off (outsN kind + 7) c (((zs.set (off + (outsN kind + 1)) 0).set (off + (outsN kind + 2)) 0).set (off + (outsN kind + 5 + 1)) 0)) := Lib.hid (by rw [hw3.out]; exact HSi.out.put _ _)
 clear hw3 cz cf lgi
 obtain ⟨c0, c1, c2, lB⟩ := HSw3.out.ins
 go_wp2_with fail
 refine (HSw3.out.set HT.out hcap (by (try simp only [List.length_set]); omega) nmDone (outsN kind) true HDN.out (by omega)).mono ?_
 rintro e w4 ⟨rfl, hbt, hrw⟩
 have HSw4 := Lib.hid (HSw3.out.next hbt hrw)
 clear hbt hrw c0 c1 c2 lB
 obtain ⟨c0, c1, c2, lB⟩ := HSw4.out.ins
 go_wp2
 refine bodyPost_end (results_none rfl _ _ _) rfl ⟨rfl, HSw4.out.but, ?_⟩
 rw [HEQ.out]
 exact HSw4.out.row

set_option maxRecDepth 100000 in
set_option maxHeartbeats 2000000 in
theorem btold2v (i kind : Int) (g off c : Nat) (zs : List Int) (what : Int) (w0 w : World) (h : ToldIn i kind g off c zs w0 w) (hw : what = 2) (hk27 : kind = 27) :
  Calls Tryd.prog 26 #[insV i kind (some ⟨g, off, none⟩) (outsN kind + 7) c, .int .i64 what] w fun e w' => e = .returned (.tuple #[]) ∧ But g w w' ∧ Row w' g (toldP kind off what zs) := by
 show Calls Tryd.prog 26 #[.agg #[.int .i64 i, .int .i64 kind, .slice (some ⟨g, off, none⟩) (outsN kind + 7) c], .int .i64 what] w _
 obtain rfl : what = 2 := hw
 have hk : ¬ kind < 27 := by omega
 have HEQ : Hid (toldP kind off 2 zs = ((zs.set (off + (outsN kind + 1)) 0).set (off + (outsN kind + 2)) 0).set (off + (outsN kind + 5 + 1)) 0) := Lib.hid (by unfold toldP; rw [if_neg (by decide), if_pos (by decide), if_pos rfl, if_neg hk])
 have HFN : Hid (firstN kind = ⟨#[73, 110, 86, 101, 108, 111, 99, 105, 116, 121]⟩) := Lib.hid (by unfold firstN; rw [if_pos hk27]; rfl)
 clear hk hk27
 have HK := Lib.hid (cmdK h.cmd)
 have hcap := h.cap
 have hlen := h.len
 have HT := Lib.hid h.tab
 have HH := Lib.hid h
 clear h
 go_enter Tryd.func26, Tryd.ntmps26
 go_upto_region 1 with (fail)
 refine wp_name fun W hW => ?_
 obtain ⟨B, hB⟩ : ∃ B, B = w.heap.size := ⟨_, rfl⟩
 have HSW : Hid (InS w0 w W B i kind g off (outsN kind + 7) c zs) := Lib.hid (by rw [hB]; exact InS.start HH.out.old HH.out.low HH.out.row (by rw [hW.out]; exact heap_alloc_new _ _) (by rw [hW.out]; exact belowBy))
 (try rw [← hB])
 clear hW hB
 obtain ⟨c0, c1, c2, lB⟩ := HSW.out.ins
 go_wp2_with fail
 refine (bfirst_at i kind (some ⟨g, off, none⟩) (outsN kind + 7) c W).mono ?_
 rintro e wf ⟨rfl, hbf⟩
 have HSwf := Lib.hid (HSW.out.below hbf)
 clear hbf c0 c1 c2 lB
 obtain ⟨c0, c1, c2, lB⟩ := HSwf.out.ins
 rw [HFN.out]
 go_wp2_with fail
 refine (HSwf.out.set HT.out hcap (by (try simp only [List.length_set]); omega) nmBusy (outsN kind + 1) false HK.out.busy (by omega)).mono ?_
 rintro e w1 ⟨rfl, hbt, hrw⟩
 have HSw1 := Lib.hid (HSwf.out.next hbt hrw)
 clear hbt hrw c0 c1 c2 lB
 obtain ⟨c0, c1, c2, lB⟩ := HSw1.out.ins
 go_wp2_with fail
 refine (HSw1.out.set HT.out hcap (by (try simp only [List.length_set]); omega) nmActive (outsN kind + 2) false HK.out.active (by omega)).mono ?_
 rintro e w2 ⟨rfl, hbt, hrw⟩
 have HSw2 := Lib.hid (HSw1.out.next hbt hrw)
 clear hbt hrw c0 c1 c2 lB
 obtain ⟨c0, c1, c2, lB⟩ := HSw2.out.ins
 go_wp2_with fail
 refine (HSw2.out.inner HT.out hcap 1 (outsN kind + 5) HK.out.inner (by omega)).mono ?_
 rintro e wi ⟨rfl, hbi⟩
 have HSi := Lib.hid (HSw2.out.below hbi)
 obtain ⟨z6, hz6⟩ : ∃ z, (((zs.set (off + (outsN kind + 1)) 0).set (off + (outsN kind + 2)) 0))[off + (outsN kind + 5 + 1)]? = some z := ⟨_, List.getElem?_eq_getElem (by (try simp only [List.length_set]); omega)⟩
 have cz : wi.cell? ⟨g, off + (outsN kind + 5 + 1), none⟩ = some (.int .i64 z6) := HSi.out.row.cell _ _ hz6
 have cf : wi.frozen? ⟨g, off + (outsN kind + 5 + 1), none⟩ = false := HSi.out.row.free _
 have lgi : g < wi.heap.size := HSi.out.row.lt
 clear hbi c0 c1 c2 lB hz6
 go_upto_region 16 with (fail)
 refine wp_name fun w3 hw3 => ?_
 have HSw3 : Hid (InS w0 w w3 B i kind g off (outsN kind + 7) c (((zs.set (off + (outsN kind + 1)) 0).set (off + (outsN kind + 2)) 0).set (off + (outsN kind + 5 + 1)) 0)) := Lib.hid (by rw [hw3.out]; exact HSi.out.put _ _)
 clear hw3 cz cf lgi
 obtain ⟨c0, c1, c2, lB⟩ := HSw3.out.ins
 go_wp2
 refine bodyPost_end (results_none rfl _ _ _) rfl ⟨rfl, HSw3.out.but, ?_⟩
 rw [HEQ.out]
 exact HSw3.out.row

set_option maxRecDepth 100000 in
set_option maxHeartbeats 2000000 in
theorem btold2g (i kind : Int) (g off c : Nat) (zs : List Int) (what : Int) (w0 w : World) (h : ToldIn i kind g off c zs w0 w) (hw : what = 2) (hk28 : kind = 28) :
  Calls Tryd.prog 26 #[insV i kind (some ⟨g, off, none⟩) (outsN kind + 7) c, .int .i64 what] w fun e w' => e = .returned (.tuple #[]) ∧ But g w w' ∧ Row w' g (toldP kind off what zs) := by
 show Calls Tryd.prog 26 #[.agg #[.int .i64 i, .int .i64 kind, .slice (some ⟨g, off, none⟩) (outsN kind + 7) c], .int .i64 what] w _
 obtain rfl : what = 2 := hw
 have hk : ¬ kind < 27 := by omega
 have HEQ : Hid (toldP kind off 2 zs = ((zs.set (off + (outsN kind + 1)) 0).set (off + (outsN kind + 2)) 0).set (off + (outsN kind + 5 + 1)) 0) := Lib.hid (by unfold toldP; rw [if_neg (by decide), if_pos (by decide), if_pos rfl, if_neg hk])
 have HFN : Hid (firstN kind = ⟨#[73, 110, 71, 101, 97, 114]⟩) := Lib.hid (by unfold firstN; rw [if_neg (by omega), if_pos hk28]; rfl)
 clear hk hk28
 have HK := Lib.hid (cmdK h.cmd)
 have hcap := h.cap
 have hlen := h.len
 have HT := Lib.hid h.tab
 have HH := Lib.hid h
 clear h
 go_enter Tryd.func26, Tryd.ntmps26
 go_upto_region 1 with (fail)
 refine wp_name fun W hW => ?_
 obtain ⟨B, hB⟩ : ∃ B, B = w.heap.size := ⟨_, rfl⟩
 have HSW : Hid (InS w0 w W B i kind g off (outsN kind + 7) c zs) := Lib.hid (by rw [hB]; exact InS.start HH.out.old HH.out.low HH.out.row (by rw [hW.out]; exact heap_alloc_new _ _) (by rw [hW.out]; exact belowBy))
 (try rw [← hB])
 clear hW hB
 obtain ⟨c0, c1, c2, lB⟩ := HSW.out.ins
 go_wp2_with fail
 refine (bfirst_at i kind (some ⟨g, off, none⟩) (outsN kind + 7) c W).mono ?_
 rintro e wf ⟨rfl, hbf⟩
 have HSwf := Lib.hid (HSW.out.below hbf)
 clear hbf c0 c1 c2 lB
 obtain ⟨c0, c1, c2, lB⟩ := HSwf.out.ins
 rw [HFN.out]
 go_wp2_with fail
 refine (HSwf.out.set HT.out hcap (by (try simp only [List.length_set]); omega) nmBusy (outsN kind + 1) false HK.out.busy (by omega)).mono ?_
 rintro e w1 ⟨rfl, hbt, hrw⟩
 have HSw1 := Lib.hid (HSwf.out.next hbt hrw)
 clear hbt hrw c0 c1 c2 lB
 obtain ⟨c0, c1, c2, lB⟩ := HSw1.out.ins
 go_wp2_with fail
 refine (HSw1.out.set HT.out hcap (by (try simp only [List.length_set]); omega) nmActive (outsN kind + 2) false HK.out.active (by omega)).mono ?_
 rintro e w2 ⟨rfl, hbt, hrw⟩
 have HSw2 := Lib.hid (HSw1.out.next hbt hrw)
 clear hbt hrw c0 c1 c2 lB
 obtain ⟨c0, c1, c2, lB⟩ := HSw2.out.ins
 go_wp2_with fail
 refine (HSw2.out.inner HT.out hcap 1 (outsN kind + 5) HK.out.inner (by omega)).mono ?_
 rintro e wi ⟨rfl, hbi⟩
 have HSi := Lib.hid (HSw2.out.below hbi)
 obtain ⟨z6, hz6⟩ : ∃ z, (((zs.set (off + (outsN kind + 1)) 0).set (off + (outsN kind + 2)) 0))[off + (outsN kind + 5 + 1)]? = some z := ⟨_, List.getElem?_eq_getElem (by (try simp only [List.length_set]); omega)⟩
 have cz : wi.cell? ⟨g, off + (outsN kind + 5 + 1), none⟩ = some (.int .i64 z6) := HSi.out.row.cell _ _ hz6
 have cf : wi.frozen? ⟨g, off + (outsN kind + 5 + 1), none⟩ = false := HSi.out.row.free _
 have lgi : g < wi.heap.size := HSi.out.row.lt
 clear hbi c0 c1 c2 lB hz6
 go_upto_region 16 with (fail)
 refine wp_name fun w3 hw3 => ?_
 have HSw3 : Hid (InS w0 w w3 B i kind g off (outsN kind + 7) c (((zs.set (off + (outsN kind + 1)) 0).set (off + (outsN kind + 2)) 0).set (off + (outsN kind + 5 + 1)) 0)) := Lib.hid (by rw [hw3.out]; exact HSi.out.put _ _)
 clear hw3 cz cf lgi
 obtain ⟨c0, c1, c2, lB⟩ := HSw3.out.ins
 go_wp2
 refine bodyPost_end (results_none rfl _ _ _) rfl ⟨rfl, HSw3.out.but, ?_⟩
 rw [HEQ.out]
 exact HSw3.out.row

set_option maxRecDepth 100000 in
set_option maxHeartbeats 2000000 in
theorem btold3 (i kind : Int) (g off c : Nat) (zs : List Int) (what : Int) (w0 w : World) (h : ToldIn i kind g off c zs w0 w) (hw : what = 3) :
  Calls Tryd.prog 26 #[insV i kind (some ⟨g, off, none⟩) (outsN kind + 7) c, .int .i64 what] w fun e w' => e = .returned (.tuple #[]) ∧ But g w w' ∧ Row w' g (toldP kind off what zs) := by
 show Calls Tryd.prog 26 #[.agg #[.int .i64 i, .int .i64 kind, .slice (some ⟨g, off, none⟩) (outsN kind + 7) c], .int .i64 what] w _
 obtain rfl : what = 3 := hw
 have HEQ : Hid (toldP kind off 3 zs = (((zs.set (off + (outsN kind + 1)) 0).set (off + (outsN kind + 2)) 0).set (off + (outsN kind + 5 + 1)) 0).set (off + (outsN kind + 3)) 1) := Lib.hid (by unfold toldP; rw [if_neg (by decide), if_pos (by decide), if_neg (by decide), if_pos rfl])
 have HK := Lib.hid (cmdK h.cmd)
 have hcap := h.cap
 have hlen := h.len
 have HT := Lib.hid h.tab
 have HH := Lib.hid h
 clear h
 go_enter Tryd.func26, Tryd.ntmps26
 go_upto_region 1 with (fail)
 refine wp_name fun W hW => ?_
 obtain ⟨B, hB⟩ : ∃ B, B = w.heap.size := ⟨_, rfl⟩
 have HSW : Hid (InS w0 w W B i kind g off (outsN kind + 7) c zs) := Lib.hid (by rw [hB]; exact InS.start HH.out.old HH.out.low HH.out.row (by rw [hW.out]; exact heap_alloc_new _ _) (by rw [hW.out]; exact belowBy))
 (try rw [← hB])
 clear hW hB
 obtain ⟨c0, c1, c2, lB⟩ := HSW.out.ins
 go_wp2_with fail
 refine (HSW.out.set HT.out hcap (by (try simp only [List.length_set]); omega) nmBusy (outsN kind + 1) false HK.out.busy (by omega)).mono ?_
 rintro e w1 ⟨rfl, hbt, hrw⟩
 have HSw1 := Lib.hid (HSW.out.next hbt hrw)
 clear hbt hrw c0 c1 c2 lB
 obtain ⟨c0, c1, c2, lB⟩ := HSw1.out.ins
 go_wp2_with fail
 refine (HSw1.out.set HT.out hcap (by (try simp only [List.length_set]); omega) nmActive (outsN kind + 2) false HK.out.active (by omega)).mono ?_
 rintro e w2 ⟨rfl, hbt, hrw⟩
 have HSw2 := Lib.hid (HSw1.out.next hbt hrw)
 clear hbt hrw c0 c1 c2 lB
 obtain ⟨c0, c1, c2, lB⟩ := HSw2.out.ins
 go_wp2_with fail
 refine (HSw2.out.inner HT.out hcap 1 (outsN kind + 5) HK.out.inner (by omega)).mono ?_
 rintro e wi ⟨rfl, hbi⟩
 have HSi := Lib.hid (HSw2.out.below hbi)
 obtain ⟨z6, hz6⟩ : ∃ z, (((zs.set (off + (outsN kind + 1)) 0).set (off + (outsN kind + 2)) 0))[off + (outsN kind + 5 + 1)]? = some z := ⟨_, List.getElem?_eq_getElem (by (try simp only [List.length_set]); omega)⟩
 have cz : wi.cell? ⟨g, off + (outsN kind + 5 + 1), none⟩ = some (.int .i64 z6) := HSi.out.row.cell _ _ hz6
 have cf : wi.frozen? ⟨g, off + (outsN kind + 5 + 1), none⟩ = false := HSi.out.row.free _
 have lgi : g < wi.heap.size := HSi.out.row.lt
 clear hbi c0 c1 c2 lB hz6
 go_upto_region 16 with (fail)
 refine wp_name fun w3 hw3 => ?_
 have HSw3 : Hid (InS w0 w w3 B i kind g off (outsN kind + 7) c (((zs.set (off + (outsN kind + 1)) 0).set (off + (outsN kind + 2)) 0).set (off + (outsN kind + 5 + 1)) 0)) := Lib.hid (by rw [hw3.out]; exact HSi.out.put _ _)
 clear hw3 cz cf lgi
 obtain ⟨c0, c1, c2, lB⟩ := HSw3.out.ins
 go_wp2_with fail
 refine (HSw3.out.set HT.out hcap (by (try simp only [List.length_set]); omega) nmAborted (outsN kind + 3) true HK.out.aborted (by omega)).mono ?_
 rintro e w4 ⟨rfl, hbt, hrw⟩
 have HSw4 := Lib.hid (HSw3.out.next hbt hrw)
 clear hbt hrw c0 c1 c2 lB
 obtain ⟨c0, c1, c2, lB⟩ := HSw4.out.ins
 go_wp2
 refine bodyPost_end (results_none rfl _ _ _) rfl ⟨rfl, HSw4.out.but, ?_⟩
 rw [HEQ.out]
 exact HSw4.out.row

set_option maxRecDepth 100000 in
set_option maxHeartbeats 2000000 in
theorem btold4 (i kind : Int) (g off c : Nat) (zs : List Int) (what : Int) (w0 w : World) (h : ToldIn i kind g off c zs w0 w) (hw : what = 4) :
  Calls Tryd.prog 26 #[insV i kind (some ⟨g, off, none⟩) (outsN kind + 7) c, .int .i64 what] w fun e w' => e = .returned (.tuple #[]) ∧ But g w w' ∧ Row w' g (toldP kind off what zs) := by
 show Calls Tryd.prog 26 #[.agg #[.int .i64 i, .int .i64 kind, .slice (some ⟨g, off, none⟩) (outsN kind + 7) c], .int .i64 what] w _
 obtain rfl : what = 4 := hw
 have HEQ : Hid (toldP kind off 4 zs = (((zs.set (off + (outsN kind + 1)) 0).set (off + (outsN kind + 2)) 0).set (off + (outsN kind + 5 + 1)) 0).set (off + (outsN kind + 4)) 1) := Lib.hid (by unfold toldP; rw [if_neg (by decide), if_pos (by decide), if_neg (by decide), if_neg (by decide)])
 have HK := Lib.hid (cmdK h.cmd)
 have hcap := h.cap
 have hlen := h.len
 have HT := Lib.hid h.tab
 have HH := Lib.hid h
 clear h
 go_enter Tryd.func26, Tryd.ntmps26
 go_upto_region 1 with (fail)
 refine wp_name fun W hW => ?_
 obtain ⟨B, hB⟩ : ∃ B, B = w.heap.size := ⟨_, rfl⟩
 have HSW : Hid (InS w0 w W B i kind g off (outsN kind + 7) c zs) := Lib.hid (by rw [hB]; exact InS.start HH.out.old HH.out.low HH.out.row (by rw [hW.out]; exact heap_alloc_new _ _) (by rw [hW.out]; exact belowBy))
 (try rw [← hB])
 clear hW hB
 obtain ⟨c0, c1, c2, lB⟩ := HSW.out.ins
 go_wp2_with fail
 refine (HSW.out.set HT.out hcap (by (try simp only [List.length_set]); omega) nmBusy (outsN kind + 1) false HK.out.busy (by omega)).mono ?_
 rintro e w1 ⟨rfl, hbt, hrw⟩
 have HSw1 := Lib.hid (HSW.out.next hbt hrw)
 clear hbt hrw c0 c1 c2 lB
 obtain ⟨c0, c1, c2, lB⟩ := HSw1.out.ins
 go_wp2_with fail
 refine (HSw1.out.set HT.out hcap (by (try simp only [List.length_set]); omega) nmActive (outsN kind + 2) false HK.out.active (by omega)).mono ?_
 rintro e w2 ⟨rfl, hbt, hrw⟩
 have HSw2 := Lib.hid (HSw1.out.next hbt hrw)
 clear hbt hrw c0 c1 c2 lB
 obtain ⟨c0, c1, c2, lB⟩ := HSw2.out.ins
 go_wp2_with fail
 refine (HSw2.out.inner HT.out hcap 1 (outsN kind + 5) HK.out.inner (by omega)).mono ?_
 rintro e wi ⟨rfl, hbi⟩
 have HSi := Lib.hid (HSw2.out.below hbi)
 obtain ⟨z6, hz6⟩ : ∃ z, (((zs.set (off + (outsN kind + 1)) 0).set (off + (outsN kind + 2)) 0))[off + (outsN kind + 5 + 1)]? = some z := ⟨_, List.getElem?_eq_getElem (by (try simp only [List.length_set]); omega)⟩
 have cz : wi.cell? ⟨g, off + (outsN kind + 5 + 1), none⟩ = some (.int .i64 z6) := HSi.out.row.cell _ _ hz6
 have cf : wi.frozen? ⟨g, off + (outsN kind + 5 + 1), none⟩ = false := HSi.out.row.free _
 have lgi : g < wi.heap.size := HSi.out.row.lt
 clear hbi c0 c1 c2 lB hz6
 go_upto_region 16 with (fail)
 refine wp_name fun w3 hw3 => ?_
 have HSw3 : Hid (InS w0 w w3 B i kind g off (outsN kind + 7) c (((zs.set (off + (outsN kind + 1)) 0).set (off + (outsN kind + 2)) 0).set (off + (outsN kind + 5 + 1)) 0)) := Lib.hid (by rw [hw3.out]; exact HSi.out.put _ _)
 clear hw3 cz cf lgi
 obtain ⟨c0, c1, c2, lB⟩ := HSw3.out.ins
 go_wp2_with fail
 refine (HSw3.out.set HT.out hcap (by (try simp only [List.length_set]); omega) nmError (outsN kind + 4) true HK.out.error (by omega)).mono ?_
 rintro e w4 ⟨rfl, hbt, hrw⟩
 have HSw4 := Lib.hid (HSw3.out.next hbt hrw)
 clear hbt hrw c0 c1 c2 lB
 obtain ⟨c0, c1, c2, lB⟩ := HSw4.out.ins
 go_wp2
 refine bodyPost_end (results_none rfl _ _ _) rfl ⟨rfl, HSw4.out.but, ?_⟩
 rw [HEQ.out]
 exact HSw4.out.row

set_option maxRecDepth 100000 in
set_option maxHeartbeats 2000000 in
theorem btold5 (i kind : Int) (g off c : Nat) (zs : List Int) (what : Int) (w0 w : World) (h : ToldIn i kind g off c zs w0 w) (hw : what = 5) :
  Calls Tryd.prog 26 #[insV i kind (some ⟨g, off, none⟩) (outsN kind + 7) c, .int .i64 what] w fun e w' => e = .returned (.tuple #[]) ∧ But g w w' ∧ Row w' g (toldP kind off what zs) := by
 show Calls Tryd.prog 26 #[.agg #[.int .i64 i, .int .i64 kind, .slice (some ⟨g, off, none⟩) (outsN kind + 7) c], .int .i64 what] w _
 obtain rfl : what = 5 := hw
 have HEQ : Hid (toldP kind off 5 zs = (((zs.set (off + (outsN kind + 1)) 0).set (off + (outsN kind + 2)) 0).set (off + (outsN kind + 5 + 1)) 0).set (off + (outsN kind + 4)) 1) := Lib.hid (by unfold toldP; rw [if_neg (by decide), if_pos (by decide), if_neg (by decide), if_neg (by decide)])
 have HK := Lib.hid (cmdK h.cmd)
 have hcap := h.cap
 have hlen := h.len
 have HT := Lib.hid h.tab
 have HH := Lib.hid h
 clear h
 go_enter Tryd.func26, Tryd.ntmps26
 go_upto_region 1 with (fail)
 refine wp_name fun W hW => ?_
 obtain ⟨B, hB⟩ : ∃ B, B = w.heap.size := ⟨_, rfl⟩
 have HSW : Hid (InS w0 w W B i kind g off (outsN kind + 7) c zs) := Lib.hid (by rw [hB]; exact InS.start HH.out.old HH.out.low HH.out.row (by rw [hW.out]; exact heap_alloc_new _ _) (by rw [hW.out]; exact belowBy))
 (try rw [← hB])
 clear hW hB
 obtain ⟨c0, c1, c2, lB⟩ := HSW.out.ins
 go_wp2_with fail
 refine (HSW.out.set HT.out hcap (by (try simp only [List.length_set]); omega) nmBusy (outsN kind + 1) false HK.out.busy (by omega)).mono ?_
 rintro e w1 ⟨rfl, hbt, hrw⟩
 have HSw1 := Lib.hid (HSW.out.next hbt hrw)
 clear hbt hrw c0 c1 c2 lB
 obtain ⟨c0, c1, c2, lB⟩ := HSw1.out.ins
 go_wp2_with fail
 refine (HSw1.out.set HT.out hcap (by (try simp only [List.length_set]); omega) nmActive (outsN kind + 2) false HK.out.active (by omega)).mono ?_
 rintro e w2 ⟨rfl, hbt, hrw⟩
 have HSw2 := Lib.hid (HSw1.out.next hbt hrw)
 clear hbt hrw c0 c1 c2 lB
 obtain ⟨c0, c1, c2, lB⟩ := HSw2.out.ins
 go_wp2_with fail
 refine (HSw2.out.inner HT.out hcap 1 (outsN kind + 5) HK.out.inner (by omega)).mono ?_
 rintro e wi ⟨rfl, hbi⟩
 have HSi := Lib.hid (HSw2.out.below hbi)
 obtain ⟨z6, hz6⟩ : ∃ z, (((zs.set (off + (outsN kind + 1)) 0).set (off + (outsN kind + 2)) 0))[off + (outsN kind + 5 + 1)]? = some z := ⟨_, List.getElem?_eq_getElem (by (try simp only [List.length_set]); omega)⟩
 have cz : wi.cell? ⟨g, off + (outsN kind + 5 + 1), none⟩ = some (.int .i64 z6) := HSi.out.row.cell _ _ hz6
 have cf : wi.frozen? ⟨g, off + (outsN kind + 5 + 1), none⟩ = false := HSi.out.row.free _
 have lgi : g < wi.heap.size := HSi.out.row.lt
 clear hbi c0 c1 c2 lB hz6
 go_upto_region 16 with (fail)
 refine wp_name fun w3 hw3 => ?_
 have HSw3 : Hid (InS w0 w w3 B i kind g off (outsN kind + 7) c (((zs.set (off + (outsN kind + 1)) 0).set (off + (outsN kind + 2)) 0).set (off + (outsN kind + 5 + 1)) 0)) := Lib.hid (by rw [hw3.out]; exact HSi.out.put _ _)
 clear hw3 cz cf lgi
 obtain ⟨c0, c1, c2, lB⟩ := HSw3.out.ins
 go_wp2_with fail
 refine (HSw3.out.set HT.out hcap (by (try simp only [List.length_set]); omega) nmError (outsN kind + 4) true HK.out.error (by omega)).mono ?_
 rintro e w4 ⟨rfl, hbt, hrw⟩
 have HSw4 := Lib.hid (HSw3.out.next hbt hrw)
 clear hbt hrw c0 c1 c2 lB
 obtain ⟨c0, c1, c2, lB⟩ := HSw4.out.ins
 go_wp2
 refine bodyPost_end (results_none rfl _ _ _) rfl ⟨rfl, HSw4.out.but, ?_⟩
 rw [HEQ.out]
 exact HSw4.out.row

set_option maxRecDepth 100000 in
set_option maxHeartbeats 2000000 in
theorem btold0 (i kind : Int) (g off c : Nat) (zs : List Int) (what : Int) (w0 w : World) (h : ToldIn i kind g off c zs w0 w) (hw : what < 1 ∨ 5 < what) :
  Calls Tryd.prog 26 #[insV i kind (some ⟨g, off, none⟩) (outsN kind + 7) c, .int .i64 what] w fun e w' => e = .returned (.tuple #[]) ∧ But g w w' ∧ Row w' g (toldP kind off what zs) := by
 show Calls Tryd.prog 26 #[.agg #[.int .i64 i, .int .i64 kind, .slice (some ⟨g, off, none⟩) (outsN kind + 7) c], .int .i64 what] w _
 have HEQ : Hid (toldP kind off what zs = zs) := Lib.hid (by unfold toldP; rw [if_neg (by omega), if_neg (by omega)])
 have HR := Lib.hid h.row
 have u1 : (what == 1) = false := by simp; omega
 have u2 : (what == 2) = false := by simp; omega
 have u3 : (what == 3) = false := by simp; omega
 have u4 : (what == 4) = false := by simp; omega
 have u5 : (what == 5) = false := by simp; omega
 clear h hw
 go_enter Tryd.func26, Tryd.ntmps26
 go_wp2
 have hb : Below w.heap.size w (w.alloc (.cells #[.int .i64 i, .int .i64 kind, .slice (some ⟨g, off, none⟩) (outsN kind + 7) c] 68)) := by exact belowBy
 exact bodyPost_ret (results_none rfl _ _ _) rfl ⟨rfl, But.of_below hb, by rw [HEQ.out]; exact HR.out.below hb⟩

theorem btold_at (i kind : Int) (g off c : Nat) (zs : List Int) (what : Int) (w0 w : World) (h : ToldIn i kind g off c zs w0 w) :
  Calls Tryd.prog 26 #[insV i kind (some ⟨g, off, none⟩) (outsN kind + 7) c, .int .i64 what] w fun e w' => e = .returned (.tuple #[]) ∧ But g w w' ∧ Row w' g (toldP kind off what zs) := by
 by_cases h0 : what < 1 ∨ 5 < what
 ·exact btold0 i kind g off c zs what w0 w h h0
 rcases (show what = 1 ∨ what = 2 ∨ what = 3 ∨ what = 4 ∨ what = 5 by omega) with hw | hw | hw | hw | hw
 ·exact btold1 i kind g off c zs what w0 w h hw
 ·by_cases h27 : kind < 27
  ·exact btold2d i kind g off c zs what w0 w h hw h27
  ·by_cases h28 : kind = 27
   ·exact btold2v i kind g off c zs what w0 w h hw h28
   ·exact btold2g i kind g off c zs what w0 w h hw (by have := h.cmd; omega)
 ·exact btold3 i kind g off c zs what w0 w h hw
 ·exact btold4 i kind g off c zs what w0 w h hw
 ·exact btold5 i kind g off c zs what w0 w h hw

end Go.Proofs.YtknnhnefbbjcdaaDoor
