/- Merged: Layer 16: the pins that a row of names tells. The frame of the laws over the table of blanks: the row's listed tables give 'Blanks'; the witness' world. Readings of arguments, cell by cell: what a value of a type looks like in memory. Slices of structs (or of whatever reads cell by cell), as they lie in memory. A program's tree, as it lies in memory: expressions and statements; out of the row's reading. A program's tree out of the row's reading; its sizes by the row's reach. -/
import Derived.Test.YtahjijdadifkaaaDoorM00
import Derived.Test.YtahjijdadifkaaaDoorShelf
import Derived.Test.YtahjijdadifkaaaDoorTie
import Derived.Test.YtahjijdadifkaaaDoorCards
import Derived.LaidMore
import Derived.SevenTiedAt
import Derived.Stop.Joined
import Derived.Stop.LaidErr
import Derived.Lib.LaidTab
import Derived.Lib.AppendIntMem
import Derived.SizedLaws
set_option linter.unusedVariables false
set_option linter.unusedSimpArgs false
namespace Go.Proofs.YtahjijdadifkaaaDoor
open Go.RowKit
attribute [local go_sem] ite_max ite_min vite_max vite_min ext_cell ext_frozen

def hashB (l : List UInt8) : Bool := Lib.hasSuffix l [35]
def pinOf (inn : Bool) (l : List UInt8) : List Value := bif hashB l then [.string ⟨(Lib.trimSuffix l [35]).toArray⟩, .int .i64 1, .bool inn] else [.string ⟨l.toArray⟩, .int .i64 2, .bool inn]
theorem pinOf_len (inn : Bool) (l : List UInt8) : (pinOf inn l).length = 3 := by unfold pinOf; cases hashB l <;> rfl
theorem pinOf_one (inn : Bool) (l : List UInt8) : ∀ u ∈ pinOf inn l, u.oneCell' = true := by
 intro u hu
 unfold pinOf at hu
 cases h : hashB l <;> rw [h] at hu <;> simp only [cond_true, cond_false, List.mem_cons, List.not_mem_nil, or_false] at hu <;> rcases hu with rfl | rfl | rfl <;> rfl
def pinsK (inn : Bool) (fs : List (List UInt8)) (k : Nat) : List Value := (fs.take k).flatMap (pinOf inn)
theorem pinsK_succ (inn : Bool) (fs : List (List UInt8)) (k : Nat) (l : List UInt8) (h : fs[k]? = some l) : pinsK inn fs (k + 1) = pinsK inn fs k ++ pinOf inn l := by
 unfold pinsK
 obtain ⟨hk, rfl⟩ := List.getElem?_eq_some_iff.1 h
 rw [List.take_succ_eq_append_getElem hk, List.flatMap_append]
 simp
theorem owns_mono {w : World} {base base' : Nat} {e : TypeId} {size : Nat} {v : Value} {n : Nat} {xs : List Value} (h : w.ownsRow base e size v n xs) (hb : base' ≤ base) : w.ownsRow base' e size v n xs :=
 ⟨h.1, h.2.imp id fun ⟨g, cap, cur, h1, h2, h3⟩ => ⟨g, cap, cur, h1, Nat.le_trans hb h2, h3⟩⟩
def pinsC (inn : Bool) (names : ByteArray) : List Value := (Lib.fields names.data.toList).flatMap (pinOf inn)
def pinsN (names : ByteArray) : Nat := (Lib.fields names.data.toList).length
theorem pinsK_all (inn : Bool) (names : ByteArray) : pinsK inn (Lib.fields names.data.toList) (pinsN names) = pinsC inn names := by
 unfold pinsK pinsN pinsC
 rw [List.take_length]

theorem pin_info : (Tryd.prog.info? 106).map (fun i => (i.zero, i.size, i.bytes)) = some (some (.agg #[.string ⟨#[]⟩, .int .i64 0, .bool false]), 3, 32) := by kernel_rfl

def Blanks (w : World) : Prop := ∀ w', Below w.heap.size w w' → Lib.TabIs Tryd.prog w' "strings.asciiSpace" .u8 Lib.asciiSpaceTab
def okN (names : ByteArray) : Bool := decide (names.size < 4294967281) && names.data.toList.all (fun b => decide (b.toNat < 128)) && decide (pinsN names ≤ 100) && (Lib.fields names.data.toList).all (fun l => decide (l.length ≤ 1000))
theorem Blanks.on {w w' : World} (h : Blanks w) (hb : Below w.heap.size w w') : Blanks w' := fun x hx => h x (hb.trans (hx.mono hb.size))
theorem Blanks.tab {w : World} (h : Blanks w) : Lib.TabIs Tryd.prog w "strings.asciiSpace" .u8 Lib.asciiSpaceTab := h w (Below.refl _ _)

set_option maxRecDepth 100000 in
set_option maxHeartbeats 2000000 in
theorem pins1_any (names : ByteArray) (inn : Bool) (w : World) (hok : okN names = true) (htab : Blanks w) :
  Calls Tryd.prog 71 #[.string names, .bool inn] w fun e w' => ∃ v, e = .returned v ∧ w'.ownsRow w.heap.size 106 3 v (pinsN names) (pinsC inn names) ∧ Below w.heap.size w w' := by
 unfold okN at hok
 simp only [Bool.and_eq_true, decide_eq_true_eq, List.all_eq_true] at hok
 obtain ⟨⟨⟨hs, hasc⟩, hn⟩, hln⟩ := hok
 have hascii : ∀ (j : Nat) b, names.data.toList[j]? = some b → b.toNat < 128 := fun j b hb => hasc b (List.mem_of_getElem? hb)
 obtain ⟨i0, hi0, hz0, hz1, hz2⟩ := info_parts pin_info
 have HI := Lib.hid hi0
 have HZ0 := Lib.hid hz0
 have HZ1 := Lib.hid hz1
 have HZ2 := Lib.hid hz2
 have HT := Lib.hid htab
 clear hi0 hz0 hz1 hz2 htab
 have HF := Tryd.strings_Fields names w hs hascii HT.out.tab
 have HALL := Lib.hid (pinsK_all inn names)
 obtain ⟨fs, hfs⟩ : ∃ fs, Lib.fields names.data.toList = fs := ⟨_, rfl⟩
 obtain ⟨n, hnn⟩ : ∃ n, pinsN names = n := ⟨_, rfl⟩
 have hfn : fs.length = n := by rw [← hfs, ← hnn]; rfl
 have hlen : ∀ (j : Nat) l, fs[j]? = some l → l.length ≤ 1000 := fun j l hl => hln l (by rw [hfs]; exact List.mem_of_getElem? hl)
 rw [hfs] at HF HALL
 rw [hnn] at HALL hn ⊢
 rw [hfn] at HF
 have HFL := Lib.hid hfn
 have HLEN := Lib.hid hlen
 have HF' := Lib.hid HF
 clear hfs hnn hfn HF hlen hs hascii hasc hln
 go_enter Tryd.func71, Tryd.ntmps71
 go_wp2_with fail
 refine HF'.out.mono ?_
 rintro e w1 ⟨rfl, hw1⟩
 have hcell : ∀ (k : Nat) l, fs[k]? = some l → w1.cell? ⟨w.heap.size, k, none⟩ = some (.string ⟨l.toArray⟩) := by
  intro k l hl
  subst hw1
  refine heap_cell k _ (heap_alloc_new w _) ?_
  simp [hl]
 have hb1 : Below w.heap.size w w1 := by
  subst hw1
  exact belowBy
 have hz1 : w.heap.size + 1 ≤ w1.heap.size := by
  subst hw1
  simp
 have HC := Lib.hid hcell
 clear hw1 hcell HF'
 go_wp2_with fail
 go_loopw [5, 14] (fun v u wr => ∃ (k : Nat) (v' : Value), v' = v ∧ k ≤ n ∧ u = .int .i64 k ∧ Hid (wr.ownsRow w1.heap.size 106 3 v' k (pinsK inn fs k)) ∧ Below w1.heap.size w1 wr) (fun _ u _ => n - (intOf u).toNat)
 case atStart => exact ⟨0, _, rfl, by omega, rfl, Lib.hid (World.ownsRow_nil _ _ _ _), Below.refl _ _⟩
 case round =>
  obtain ⟨k, v', rfl, hk, rfl, HO, hbr⟩ := hrel
  have hbs := hbr.size
  by_cases hlt : k < n
  ·obtain ⟨l, hl⟩ : ∃ l, fs[k]? = some l := ⟨fs[k]'(by rw [HFL.out]; exact hlt), List.getElem?_eq_getElem _⟩
   have c0 : wr.cell? ⟨w.heap.size, k, none⟩ = some (.string ⟨l.toArray⟩) := (hbr.cell (p := ⟨w.heap.size, k, none⟩) (by show w.heap.size < w1.heap.size; omega)).trans (HC.out k l hl)
   have hkn : (k : Int) < (n : Int) := by omega
   have hk0 : (0 : Int) ≤ (k : Int) := by omega
   have hls := HLEN.out k l hl
   have HK := Lib.hid (pinsK_succ inn fs k l hl)
   have HCS : ∀ w', Calls Tryd.prog 80 #[.string ⟨l.toArray⟩, .string ⟨#[35]⟩] w' fun e w'' => e = .returned (.tuple #[.string ⟨(Lib.trimSuffix l [35]).toArray⟩, .bool (hashB l)]) ∧ w'' = w' := fun w' => Tryd.strings_CutSuffix ⟨l.toArray⟩ ⟨#[35]⟩ w' (by show l.toArray.size ≤ 9223372036854775807; simp; omega)
   have HCS' := Lib.hid HCS
   clear HCS hl
   go_wp2_with fail
   refine (HCS'.out _).mono ?_
   rintro e w2 ⟨rfl, rfl⟩
   cases hh : hashB l
   ·have hpin : pinOf inn l = [.string ⟨l.toArray⟩, .int .i64 2, .bool inn] := by unfold pinOf; rw [hh]; rfl
    have HP := Lib.hid hpin
    clear hh hpin
    go_upto_region 9 with (fail)
    refine wp_name fun W9 hW9 => ?_
    have p0 : W9.cell? ⟨wr.heap.size, 0, none⟩ = some (.string ⟨l.toArray⟩) := by rw [hW9.out]; go_simp
    have p1 : W9.cell? ⟨wr.heap.size, 1, none⟩ = some (.int .i64 2) := by rw [hW9.out]; go_simp
    have p2 : W9.cell? ⟨wr.heap.size, 2, none⟩ = some (.bool inn) := by rw [hW9.out]; go_simp
    have HB9 : Hid (Below wr.heap.size wr W9) := Lib.hid (by rw [hW9.out]; exact belowBy)
    have hs9 : wr.heap.size < W9.heap.size := by rw [hW9.out]; simp [World.setCell]
    have HO9 := Lib.hid (owns_below HO.out HB9.out)
    clear hW9
    go_wp2_with (at_builtin; refine wpList_append_own _ rfl _ _ 102 rfl w1.heap.size 106 i0 (.agg #[.string ⟨#[]⟩, .int .i64 0, .bool false]) 3 32 Tryd.underlying102 HI.out HZ0.out HZ1.out HZ2.out rfl (by decide) _ k _ rfl (HO9.out.alloc _) ⟨W9.heap.size, 0, none⟩ 1 1 (pinOf inn l) rfl ?xlen ?xnews (pinOf_one _ _) ?xmax ?xby ?xbase ?_)
    case xlen => rw [pinOf_len]
    case xnews =>
     rw [HP.out]
     intro j u hu
     have had : (⟨W9.heap.size, 0, none⟩ : Addr).add j = ⟨W9.heap.size, j, none⟩ := by cases j <;> simp [Addr.add]
     rw [had]
     exact heap_cell j _ (heap_alloc_new _ _) (by rw [List.getElem?_toArray]; exact hu)
    case xmax => unfold maxLen; omega
    case xby => omega
    case xbase => first | omega | (simp; omega)
    intro v2 w2 hown2 hgrow _
    rw [← HK.out] at hown2
    have HO2 := Lib.hid hown2
    have hb2 : Below w1.heap.size w1 w2 := below_grown (below_new (hbr.trans (HB9.out.mono hbr.size)) (Nat.le_refl _) _) hgrow (HO9.out.alloc _) (Nat.le_refl _) (by simp; omega)
    clear hown2 hgrow HO HO9
    go_wp2
    go_roundw
    case rel => exact ⟨k + 1, _, rfl, by omega, by go_num, HO2, hb2⟩
    case measure => simp [intOf]; omega
   ·have hpin : pinOf inn l = [.string ⟨(Lib.trimSuffix l [35]).toArray⟩, .int .i64 1, .bool inn] := by unfold pinOf; rw [hh]; rfl
    have HP := Lib.hid hpin
    clear hh hpin
    go_upto_region 9 with (fail)
    refine wp_name fun W9 hW9 => ?_
    have p0 : W9.cell? ⟨wr.heap.size, 0, none⟩ = some (.string ⟨(Lib.trimSuffix l [35]).toArray⟩) := by rw [hW9.out]; go_simp
    have p1 : W9.cell? ⟨wr.heap.size, 1, none⟩ = some (.int .i64 1) := by rw [hW9.out]; go_simp
    have p2 : W9.cell? ⟨wr.heap.size, 2, none⟩ = some (.bool inn) := by rw [hW9.out]; go_simp
    have HB9 : Hid (Below wr.heap.size wr W9) := Lib.hid (by rw [hW9.out]; exact belowBy)
    have hs9 : wr.heap.size < W9.heap.size := by rw [hW9.out]; simp [World.setCell]
    have HO9 := Lib.hid (owns_below HO.out HB9.out)
    clear hW9
    go_wp2_with (at_builtin; refine wpList_append_own _ rfl _ _ 102 rfl w1.heap.size 106 i0 (.agg #[.string ⟨#[]⟩, .int .i64 0, .bool false]) 3 32 Tryd.underlying102 HI.out HZ0.out HZ1.out HZ2.out rfl (by decide) _ k _ rfl (HO9.out.alloc _) ⟨W9.heap.size, 0, none⟩ 1 1 (pinOf inn l) rfl ?xlen ?xnews (pinOf_one _ _) ?xmax ?xby ?xbase ?_)
    case xlen => rw [pinOf_len]
    case xnews =>
     rw [HP.out]
     intro j u hu
     have had : (⟨W9.heap.size, 0, none⟩ : Addr).add j = ⟨W9.heap.size, j, none⟩ := by cases j <;> simp [Addr.add]
     rw [had]
     exact heap_cell j _ (heap_alloc_new _ _) (by rw [List.getElem?_toArray]; exact hu)
    case xmax => unfold maxLen; omega
    case xby => omega
    case xbase => first | omega | (simp; omega)
    intro v2 w2 hown2 hgrow _
    rw [← HK.out] at hown2
    have HO2 := Lib.hid hown2
    have hb2 : Below w1.heap.size w1 w2 := below_grown (below_new (hbr.trans (HB9.out.mono hbr.size)) (Nat.le_refl _) _) hgrow (HO9.out.alloc _) (Nat.le_refl _) (by simp; omega)
    clear hown2 hgrow HO HO9
    go_wp2
    go_roundw
    case rel => exact ⟨k + 1, _, rfl, by omega, by go_num, HO2, hb2⟩
    case measure => simp [intOf]; omega
  ·obtain rfl : k = n := by omega
   have HO3 := HO.out
   rw [HALL.out] at HO3
   obtain ⟨A, c, hv, hc1, hc2, hbk⟩ := own_form HO3
   have HO4 := Lib.hid HO3
   clear HO3
   go_wp2
   go_ret
   exact ⟨_, rfl, owns_mono HO4.out (by omega), by exact belowBy⟩

end Go.Proofs.YtahjijdadifkaaaDoor

namespace Go.Proofs.YtahjijdadifkaaaDoor
open Go.ChangeShapes Go.WideShapes Go.ChangeAt Go.RowKit

def laidL : List (String × DataW Unit) := [("unicode.White_Space", Rows.laid_unicode_White_Space), ("strings.asciiSpace", Rows.laid_strings_asciiSpace)]
theorem gBlank : Tryd.prog.globalNamed "strings.asciiSpace" = some 0 := by kernel_rfl
theorem tBlank : (Tryd.prog.globals[0]?).map (·.type) = some 134 := by kernel_rfl
theorem space_data : (Rows.laid_strings_asciiSpace : DataW Unit) = Lib.tabData .u8 Lib.asciiSpaceTab := by kernel_rfl

theorem door_met (os : Os) (args : Array Value) : laidMetH Tryd.prog laidL ((World.doorLaid Tryd.prog 400 os).forCall (fun _ _ => 0) ⟨#[], args, []⟩).memory :=
 laidMetH_of_parts3 (fuel := 8) (laidMet_of_run' 8 (by kernel_rfl) (by kernel_rfl)) (by kernel_rfl) (by kernel_rfl)

theorem blanks_of {W : World} (h : laidMetH Tryd.prog laidL W) : Blanks W := by
 rw [MakeChecks.laidMetH_plain _ _ _ (by kernel_rfl)] at h
 have h2 : laidMet Tryd.prog [("strings.asciiSpace", Rows.laid_strings_asciiSpace)] W := laidMet.tail h
 rw [space_data] at h2
 exact Lib.tabBelow_of_tabIs (Lib.tabIs_of_head gBlank tBlank Tryd.underlying134 Tryd.underlying5 (by kernel_rfl) (by kernel_rfl) h2)


section
variable {P : Program} {H : Type} {enc : TypeId × Value → H} {w : World} {t e : TypeId} {cs : List Value}

def Rd (enc : TypeId × Value → H) (P : Program) (w : World) (t : TypeId) (cs : List Value) : Prop := ∃ fuel x, DataW.trod enc P w 0 (fun _ => true) true fuel t cs = some x

theorem rd_int {k : IntKind} (ht : P.underlying t = some (.int k)) (h : Rd enc P w t cs) : ∃ n, cs = [.int k n] ∧ (Lit.int k n).wf = true := by
 obtain ⟨fuel, x, h⟩ := h
 cases fuel with
 | zero => simp [DataW.trod] at h
 | succ n =>
  unfold DataW.trod at h
  rw [ht] at h
  split at h <;> simp_all

theorem rd_bool (ht : P.underlying t = some .bool) (h : Rd enc P w t cs) : ∃ b, cs = [.bool b] := by
 obtain ⟨fuel, x, h⟩ := h
 cases fuel with
 | zero => simp [DataW.trod] at h
 | succ n =>
  unfold DataW.trod at h
  rw [ht] at h
  split at h <;> simp_all

theorem rd_string (ht : P.underlying t = some .string) (h : Rd enc P w t cs) : ∃ s : ByteArray, cs = [.string s] ∧ s.size ≤ maxLen := by
 obtain ⟨fuel, x, h⟩ := h
 cases fuel with
 | zero => simp [DataW.trod] at h
 | succ n =>
  unfold DataW.trod at h
  rw [ht] at h
  split at h <;> simp_all

end

theorem list_1 {α : Type} (l : List α) (h : l.length = 1) : ∃ a, l = [a] := by match l, h with | [a], _ => exact ⟨a, rfl⟩
theorem list_3 {α : Type} (l : List α) (h : l.length = 3) : ∃ a b c, l = [a, b, c] := by match l, h with | [a, b, c], _ => exact ⟨a, b, c, rfl⟩
theorem list_6 {α : Type} (l : List α) (h : l.length = 6) : ∃ a b c d e f, l = [a, b, c, d, e, f] := by match l, h with | [a, b, c, d, e, f], _ => exact ⟨a, b, c, d, e, f, rfl⟩

theorem slice_pick {α : Type} (Q : Nat → α → Prop) (len : Nat) (h : ∀ i, i < len → ∃ x, Q i x) : ∃ xs : List α, xs.length = len ∧ ∀ i x, xs[i]? = some x → Q i x := by
 induction len with
 | zero => exact ⟨[], rfl, fun i x hx => by simp at hx⟩
 | succ m ih =>
  obtain ⟨xs, hl, hx⟩ := ih (fun i hi => h i (by omega))
  obtain ⟨y, hy⟩ := h m (by omega)
  refine ⟨xs ++ [y], by simp [hl], fun i x hi => ?_⟩
  by_cases c : i < xs.length
  ·rw [List.getElem?_append_left c] at hi
   exact hx i x hi
  ·rw [List.getElem?_append_right (by omega)] at hi
   have hi0 : i - xs.length = 0 := by
    by_cases z : i - xs.length = 0
    ·exact z
    ·rw [List.getElem?_eq_none (by simp; omega)] at hi
     cases hi
   rw [hi0] at hi
   simp at hi
   subst hi
   have : i = m := by omega
   subst this
   exact hy


inductive Ex where
 | mk (op n : Int) (name field : ByteArray) (sub : List Ex) (line : Int)
def Ex.op : Ex → Int | .mk o _ _ _ _ _ => o
def Ex.n : Ex → Int | .mk _ n _ _ _ _ => n
def Ex.name : Ex → ByteArray | .mk _ _ s _ _ _ => s
def Ex.field : Ex → ByteArray | .mk _ _ _ s _ _ => s
def Ex.sub : Ex → List Ex | .mk _ _ _ _ l _ => l
def Ex.line : Ex → Int | .mk _ _ _ _ _ i => i

def I64 (n : Int) : Prop := -9223372036854775808 ≤ n ∧ n ≤ 9223372036854775807

inductive ExAt (w : World) : Ex → List Value → Prop where
 | mk (op n line : Int) (name field : ByteArray) (sub : List Ex) (A : Option Addr) (cap : Nat) (f : Nat → List Value) (ho : I64 op) (hn : I64 n) (hi : I64 line)
   (hl : sub.length ≤ cap) (hc : cap ≤ 9223372036854775807) (hb : sub.length * 80 ≤ 140737488355328)
   (hA : sub ≠ [] → ∃ b off, A = some ⟨b, off, none⟩ ∧ b < w.heap.size ∧ ∀ i, i < sub.length → ∀ j, j < 6 → w.cell? ⟨b, off + i * 6 + j, none⟩ = (f i)[j]?)
   (hr : ∀ i x, sub[i]? = some x → ExAt w x (f i)) :
   ExAt w (.mk op n name field sub line) [.int .i64 op, .int .i64 n, .string name, .string field, .slice A sub.length cap, .int .i64 line]

def RowOf {α : Type} (w : World) (size bytes : Nat) (Q : α → List Value → Prop) (A : Option Addr) (xs : List α) (cap : Nat) : Prop :=
 xs.length ≤ cap ∧ cap ≤ 9223372036854775807 ∧ xs.length * bytes ≤ 140737488355328 ∧ ∃ f : Nat → List Value,
  (xs ≠ [] → ∃ b off, A = some ⟨b, off, none⟩ ∧ b < w.heap.size ∧ ∀ i, i < xs.length → ∀ j, j < size → w.cell? ⟨b, off + i * size + j, none⟩ = (f i)[j]?) ∧ ∀ i x, xs[i]? = some x → Q x (f i)
theorem RowOf.nil {α : Type} (w : World) (size bytes : Nat) (Q : α → List Value → Prop) (A : Option Addr) (cap : Nat) (hc : cap ≤ 9223372036854775807) : RowOf w size bytes Q A [] cap :=
 ⟨Nat.zero_le _, hc, by simp, fun _ => [], fun h => absurd rfl h, fun i x h => by simp at h⟩
theorem RowOf.mono {α : Type} {w w' : World} {size bytes : Nat} {Q Q' : α → List Value → Prop} {A : Option Addr} {xs : List α} {cap : Nat} (h : RowOf w size bytes Q A xs cap) (hb : Below w.heap.size w w') (hQ : ∀ x cs, x ∈ xs → Q x cs → Q' x cs) : RowOf w' size bytes Q' A xs cap := by
 obtain ⟨h1, h2, h3, f, h4, h5⟩ := h
 refine ⟨h1, h2, h3, f, fun hn => ?_, fun i x hx => hQ x _ (List.mem_of_getElem? hx) (h5 i x hx)⟩
 obtain ⟨b, off, ha, hbl, hcell⟩ := h4 hn
 exact ⟨b, off, ha, Nat.lt_of_lt_of_le hbl hb.size, fun i hi j hj => (hb.cell (p := ⟨b, _, none⟩) hbl).trans (hcell i hi j hj)⟩
theorem RowOf.at {α : Type} {w : World} {size bytes : Nat} {Q : α → List Value → Prop} {A : Option Addr} {xs : List α} {cap : Nat} (h : RowOf w size bytes Q A xs cap) {i : Nat} (hi : i < xs.length) :
  ∃ b off x cs, A = some ⟨b, off, none⟩ ∧ b < w.heap.size ∧ xs[i]? = some x ∧ Q x cs ∧ ∀ j, j < size → w.cell? ⟨b, off + i * size + j, none⟩ = cs[j]? := by
 obtain ⟨_, _, _, f, h4, h5⟩ := h
 obtain ⟨b, off, ha, hbl, hcell⟩ := h4 (List.ne_nil_of_length_pos (by omega))
 exact ⟨b, off, xs[i], f i, ha, hbl, List.getElem?_eq_getElem hi, h5 i _ (List.getElem?_eq_getElem hi), hcell i hi⟩

theorem ExAt.keep {w w' : World} (hb : Below w.heap.size w w') {x : Ex} {cs : List Value} (h : ExAt w x cs) : ExAt w' x cs := by
 induction h with
 | mk op n line name field sub A cap f ho hn hi hl hc hbb hA _ ih =>
  refine .mk op n line name field sub A cap f ho hn hi hl hc hbb (fun hne => ?_) ih
  obtain ⟨b, off, ha, hbl, hcell⟩ := hA hne
  exact ⟨b, off, ha, Nat.lt_of_lt_of_le hbl hb.size, fun i hi j hj => (hb.cell (p := ⟨b, _, none⟩) hbl).trans (hcell i hi j hj)⟩
def RowE (w : World) (A : Option Addr) (xs : List Ex) (cap : Nat) : Prop := RowOf w 6 80 (ExAt w) A xs cap
theorem RowE.below {w w' : World} {A : Option Addr} {xs : List Ex} {cap : Nat} (h : RowE w A xs cap) (hb : Below w.heap.size w w') : RowE w' A xs cap := RowOf.mono h hb fun _ _ _ h => h.keep hb
theorem ExAt.form {w : World} {x : Ex} {cs : List Value} (h : ExAt w x cs) : ∃ A cap, cs = [.int .i64 x.op, .int .i64 x.n, .string x.name, .string x.field, .slice A x.sub.length cap, .int .i64 x.line] ∧ RowE w A x.sub cap ∧ I64 x.op ∧ I64 x.n ∧ I64 x.line := by
 cases h with
 | mk op n line name field sub A cap f ho hn hi hl hc hb hA hr => exact ⟨A, cap, rfl, ⟨hl, hc, hb, f, hA, hr⟩, ho, hn, hi⟩
theorem ExAt.of {w : World} {op n line : Int} {name field : ByteArray} {sub : List Ex} {A : Option Addr} {cap : Nat} (ho : I64 op) (hn : I64 n) (hi : I64 line) (h : RowE w A sub cap) :
  ExAt w (.mk op n name field sub line) [.int .i64 op, .int .i64 n, .string name, .string field, .slice A sub.length cap, .int .i64 line] := by
 obtain ⟨hl, hc, hb, f, hA, hr⟩ := h
 exact .mk op n line name field sub A cap f ho hn hi hl hc hb hA hr

inductive Stm where
 | mk (op : Int) (name : ByteArray) (dst src : Ex) (conds : List Ex) (labels : List (List Int)) (fields : List ByteArray) (blocks : List (List Stm)) (line : Int)
def Stm.op : Stm → Int | .mk o _ _ _ _ _ _ _ _ => o
def Stm.name : Stm → ByteArray | .mk _ s _ _ _ _ _ _ _ => s
def Stm.dst : Stm → Ex | .mk _ _ x _ _ _ _ _ _ => x
def Stm.src : Stm → Ex | .mk _ _ _ x _ _ _ _ _ => x
def Stm.conds : Stm → List Ex | .mk _ _ _ _ l _ _ _ _ => l
def Stm.labels : Stm → List (List Int) | .mk _ _ _ _ _ l _ _ _ => l
def Stm.fields : Stm → List ByteArray | .mk _ _ _ _ _ _ l _ _ => l
def Stm.blocks : Stm → List (List Stm) | .mk _ _ _ _ _ _ _ l _ => l
def Stm.line : Stm → Int | .mk _ _ _ _ _ _ _ _ i => i

def IntsC (w : World) (zs : List Int) (cs : List Value) : Prop := ∃ A cap, cs = [.slice A zs.length cap] ∧ RowOf w 1 8 (fun z c => c = [Value.int .i64 z] ∧ I64 z) A zs cap
theorem IntsC.below {w w' : World} {zs : List Int} {cs : List Value} (h : IntsC w zs cs) (hb : Below w.heap.size w w') : IntsC w' zs cs := by
 obtain ⟨A, cap, e, r⟩ := h
 exact ⟨A, cap, e, r.mono hb fun _ _ _ h => h⟩
def RowL (w : World) (A : Option Addr) (xs : List (List Int)) (cap : Nat) : Prop := RowOf w 1 24 (IntsC w) A xs cap
def RowS (w : World) (A : Option Addr) (xs : List ByteArray) (cap : Nat) : Prop := RowOf w 1 16 (fun s c => c = [Value.string s]) A xs cap
theorem RowL.below {w w' : World} {A : Option Addr} {xs : List (List Int)} {cap : Nat} (h : RowL w A xs cap) (hb : Below w.heap.size w w') : RowL w' A xs cap := RowOf.mono h hb fun _ _ _ h => h.below hb
theorem RowS.below {w w' : World} {A : Option Addr} {xs : List ByteArray} {cap : Nat} (h : RowS w A xs cap) (hb : Below w.heap.size w w') : RowS w' A xs cap := RowOf.mono h hb fun _ _ _ h => h

inductive StmAt (w : World) : Stm → List Value → Prop where
 | mk (op line : Int) (name : ByteArray) (dst src : Ex) (conds : List Ex) (labels : List (List Int)) (fields : List ByteArray) (blocks : List (List Stm)) (tc vc : List Value) (ho : I64 op) (hi : I64 line)
   (hto : ExAt w dst tc) (hval : ExAt w src vc) (Ac Al Af Ab : Option Addr) (kc kl kf kb : Nat) (hcs : RowE w Ac conds kc) (hls : RowL w Al labels kl) (hfs : RowS w Af fields kf)
   (g : Nat → Option Addr) (h : Nat → Nat) (f : Nat → Nat → List Value) (h1 : blocks.length ≤ kb) (h2 : kb ≤ 9223372036854775807) (h3 : blocks.length * 24 ≤ 140737488355328)
   (hB : blocks ≠ [] → ∃ b off, Ab = some ⟨b, off, none⟩ ∧ b < w.heap.size ∧ ∀ i bl, blocks[i]? = some bl → w.cell? ⟨b, off + i, none⟩ = some (.slice (g i) bl.length (h i)))
   (h4 : ∀ i bl, blocks[i]? = some bl → bl.length ≤ h i ∧ h i ≤ 9223372036854775807 ∧ bl.length * 288 ≤ 140737488355328 ∧ (bl ≠ [] → ∃ b off, g i = some ⟨b, off, none⟩ ∧ b < w.heap.size ∧ ∀ k, k < bl.length → ∀ j, j < 19 → w.cell? ⟨b, off + k * 19 + j, none⟩ = (f i k)[j]?))
   (hr : ∀ i bl k s, blocks[i]? = some bl → bl[k]? = some s → StmAt w s (f i k)) :
   StmAt w (.mk op name dst src conds labels fields blocks line) ([.int .i64 op, .string name] ++ tc ++ vc ++ [.slice Ac conds.length kc, .slice Al labels.length kl, .slice Af fields.length kf, .slice Ab blocks.length kb, .int .i64 line])
theorem StmAt.keep {w w' : World} (hb : Below w.heap.size w w') {s : Stm} {cs : List Value} (h : StmAt w s cs) : StmAt w' s cs := by
 induction h with
 | mk op line name dst src conds labels fields blocks tc vc ho hi hto hval Ac Al Af Ab kc kl kf kb hcs hls hfs g h f h1 h2 h3 hB h4 _ ih =>
  refine .mk op line name dst src conds labels fields blocks tc vc ho hi (hto.keep hb) (hval.keep hb) Ac Al Af Ab kc kl kf kb (hcs.below hb) (hls.below hb) (hfs.below hb) g h f h1 h2 h3 (fun hne => ?_) (fun i bl hbl => ?_) ih
  ·obtain ⟨b, off, ha, hbl, hcell⟩ := hB hne
   exact ⟨b, off, ha, Nat.lt_of_lt_of_le hbl hb.size, fun i bl hi => (hb.cell (p := ⟨b, _, none⟩) hbl).trans (hcell i bl hi)⟩
  ·obtain ⟨a1, a2, a3, a4⟩ := h4 i bl hbl
   refine ⟨a1, a2, a3, fun hne => ?_⟩
   obtain ⟨b, off, ha, hbl, hcell⟩ := a4 hne
   exact ⟨b, off, ha, Nat.lt_of_lt_of_le hbl hb.size, fun k hk j hj => (hb.cell (p := ⟨b, _, none⟩) hbl).trans (hcell k hk j hj)⟩
def RowT (w : World) (A : Option Addr) (xs : List Stm) (cap : Nat) : Prop := RowOf w 19 288 (StmAt w) A xs cap
theorem RowT.below {w w' : World} {A : Option Addr} {xs : List Stm} {cap : Nat} (h : RowT w A xs cap) (hb : Below w.heap.size w w') : RowT w' A xs cap := RowOf.mono h hb fun _ _ _ h => h.keep hb
def BlockC (w : World) (bl : List Stm) (cs : List Value) : Prop := ∃ A cap, cs = [.slice A bl.length cap] ∧ RowT w A bl cap
theorem BlockC.below {w w' : World} {bl : List Stm} {cs : List Value} (h : BlockC w bl cs) (hb : Below w.heap.size w w') : BlockC w' bl cs := by
 obtain ⟨A, cap, e, r⟩ := h
 exact ⟨A, cap, e, r.below hb⟩
def RowB (w : World) (A : Option Addr) (xs : List (List Stm)) (cap : Nat) : Prop := RowOf w 1 24 (BlockC w) A xs cap
theorem RowB.below {w w' : World} {A : Option Addr} {xs : List (List Stm)} {cap : Nat} (h : RowB w A xs cap) (hb : Below w.heap.size w w') : RowB w' A xs cap := RowOf.mono h hb fun _ _ _ h => h.below hb

theorem StmAt.form {w : World} {s : Stm} {cs : List Value} (h : StmAt w s cs) : ∃ tc vc Ac Al Af Ab kc kl kf kb, cs = [.int .i64 s.op, .string s.name] ++ tc ++ vc ++ [.slice Ac s.conds.length kc, .slice Al s.labels.length kl, .slice Af s.fields.length kf, .slice Ab s.blocks.length kb, .int .i64 s.line] ∧
  ExAt w s.dst tc ∧ ExAt w s.src vc ∧ RowE w Ac s.conds kc ∧ RowL w Al s.labels kl ∧ RowS w Af s.fields kf ∧ RowB w Ab s.blocks kb ∧ I64 s.op ∧ I64 s.line := by
 cases h with
 | mk op line name dst src conds labels fields blocks tc vc ho hi hto hval Ac Al Af Ab kc kl kf kb hcs hls hfs g h f h1 h2 h3 hB h4 hr =>
  refine ⟨tc, vc, Ac, Al, Af, Ab, kc, kl, kf, kb, rfl, hto, hval, hcs, hls, hfs, ⟨h1, h2, h3, fun i => [.slice (g i) ((blocks[i]?.getD []).length) (h i)], fun hne => ?_, fun i bl hbl => ?_⟩, ho, hi⟩
  ·obtain ⟨b, off, ha, hbl, hcell⟩ := hB hne
   refine ⟨b, off, ha, hbl, fun i hi j hj => ?_⟩
   obtain rfl : j = 0 := by omega
   have hi' : i < blocks.length := hi
   have := hcell i _ (List.getElem?_eq_getElem hi')
   rw [Nat.mul_one, Nat.add_zero, this]
   show _ = some (Value.slice (g i) ((blocks[i]?.getD []).length) (h i))
   rw [List.getElem?_eq_getElem hi']
   rfl
  ·obtain ⟨a1, a2, a3, a4⟩ := h4 i bl hbl
   have hbl' : blocks[i]? = some bl := hbl
   exact ⟨g i, h i, by show [Value.slice (g i) ((blocks[i]?.getD []).length) (h i)] = _; rw [hbl']; rfl, a1, a2, a3, f i, a4, fun k s hk => hr i bl k s hbl hk⟩
theorem StmAt.of {w : World} {op line : Int} {name : ByteArray} {dst src : Ex} {conds : List Ex} {labels : List (List Int)} {fields : List ByteArray} {blocks : List (List Stm)} {tc vc : List Value} {Ac Al Af Ab : Option Addr} {kc kl kf kb : Nat}
  (ho : I64 op) (hi : I64 line) (hto : ExAt w dst tc) (hval : ExAt w src vc) (hcs : RowE w Ac conds kc) (hls : RowL w Al labels kl) (hfs : RowS w Af fields kf) (hbs : RowB w Ab blocks kb) :
  StmAt w (.mk op name dst src conds labels fields blocks line) ([.int .i64 op, .string name] ++ tc ++ vc ++ [.slice Ac conds.length kc, .slice Al labels.length kl, .slice Af fields.length kf, .slice Ab blocks.length kb, .int .i64 line]) := by
 obtain ⟨h1, h2, h3, F, hB, hQ⟩ := hbs
 have hch : ∀ i, ∃ (A : Option Addr) (cap : Nat) (f : Nat → List Value), ∀ bl, blocks[i]? = some bl → F i = [.slice A bl.length cap] ∧ bl.length ≤ cap ∧ cap ≤ 9223372036854775807 ∧ bl.length * 288 ≤ 140737488355328 ∧
   (bl ≠ [] → ∃ b off, A = some ⟨b, off, none⟩ ∧ b < w.heap.size ∧ ∀ k, k < bl.length → ∀ j, j < 19 → w.cell? ⟨b, off + k * 19 + j, none⟩ = (f k)[j]?) ∧ ∀ k s, bl[k]? = some s → StmAt w s (f k) := by
  intro i
  cases hbl : blocks[i]? with
  | none => exact ⟨none, 0, fun _ => [], fun bl h => by cases h⟩
  | some bl =>
   obtain ⟨A, cap, e, a1, a2, a3, f, a4, a5⟩ := hQ i bl hbl
   refine ⟨A, cap, f, fun bl' h => ?_⟩
   cases h
   exact ⟨e, a1, a2, a3, a4, a5⟩
 obtain ⟨g, hg⟩ := Classical.axiomOfChoice hch
 obtain ⟨h, hh⟩ := Classical.axiomOfChoice hg
 obtain ⟨f, hf⟩ := Classical.axiomOfChoice hh
 refine .mk op line name dst src conds labels fields blocks tc vc ho hi hto hval Ac Al Af Ab kc kl kf kb hcs hls hfs g h f h1 h2 h3 (fun hne => ?_) (fun i bl hbl => ?_) (fun i bl k s hbl hk => ?_)
 ·obtain ⟨b, off, ha, hbl, hcell⟩ := hB hne
  refine ⟨b, off, ha, hbl, fun i bl hi => ?_⟩
  have := hcell i (List.getElem?_eq_some_iff.1 hi).1 0 (by omega)
  rw [Nat.mul_one, Nat.add_zero, (hf i bl hi).1] at this
  exact this
 ·obtain ⟨_, a1, a2, a3, a4, _⟩ := hf i bl hbl
  exact ⟨a1, a2, a3, a4⟩
 ·exact (hf i bl hbl).2.2.2.2.2 k s hk


section
variable {H : Type} {enc : TypeId × Value → H} {P : Program} {w : World} {t e : TypeId} {cs : List Value}

def RdF (enc : TypeId × Value → H) (P : Program) (w : World) (n : Nat) (t : TypeId) (cs : List Value) : Prop := ∃ x, DataW.trod enc P w 0 (fun _ => true) true n t cs = some x ∧ ∀ m ∈ x.1.weights P t, m ≤ reachBytes
theorem RdF.rd {n : Nat} (h : RdF enc P w n t cs) : Rd enc P w t cs := by
 obtain ⟨x, h, _⟩ := h
 exact ⟨n, x, h⟩
theorem mem_all {P : Program} {e : TypeId} : ∀ {ds : List (DataW H)} {d : DataW H}, d ∈ ds → ∀ m ∈ d.weights P e, m ∈ DataW.weightsAll P e ds
 | d0 :: ds, d, hd, m, hm => by
  simp only [DataW.weightsAll, List.mem_append]
  rcases List.mem_cons.1 hd with rfl | hd
  ·exact .inl hm
  ·exact .inr (mem_all hd m hm)
theorem rdf_struct {fs : Array Field} {n : Nat} (ht : P.underlying t = some (.struct fs)) (h : RdF enc P w n t cs) :
  cs.length = P.cellsOf t ∧ ∃ m, n = m + 1 ∧ ∀ (i : Nat) (f : Field), fs[i]? = some f → RdF enc P w m f.type ((cs.drop f.offset).take (P.cellsOf f.type)) := by
 obtain ⟨x, h, hw⟩ := h
 obtain ⟨xs, m, hn, hx, hl, hs, hg⟩ := DataW.trod_struct ht h
 refine ⟨hl, m, hn, fun i f hf => ?_⟩
 have hi : i < xs.length := by
  rw [hs]
  exact (Array.getElem?_eq_some_iff.1 hf).1
 refine ⟨xs[i], by rw [hg i f hf, List.getElem?_eq_getElem hi], fun k hk => hw k ?_⟩
 rw [hx]
 simp only [DataW.weights, ht]
 refine DataW.weights_mem_each (j := i) (t := f.type) (d := xs[i].1) ?_ ?_ k hk
 ·rw [List.getElem?_map, Array.getElem?_toList, hf]
  rfl
 ·rw [List.getElem?_map, List.getElem?_eq_getElem hi]
  rfl
theorem rdf_slice {n : Nat} (ht : P.underlying t = some (.slice e)) (h : RdF enc P w n t cs) :
  cs = [.slice none 0 0] ∨ ∃ (a : Addr) (len cap m : Nat), n = m + 1 ∧ cs = [.slice (some a) len cap] ∧ len ≤ cap ∧ cap ≤ maxLen ∧ len * P.bytesOf e ≤ reachBytes ∧
   ∀ i, i < len → ∃ cs', w.cells? 0 (a.add (i * P.cellsOf e)) (P.cellsOf e) = some cs' ∧ RdF enc P w m e cs' := by
 obtain ⟨x, h, hw⟩ := h
 rcases DataW.trod_slice ht h with h0 | ⟨a, len, cap, elems, rest, m, hn, hcs, hx, hb, hl, hm, hlen, hel, hsp, hns⟩
 ·exact .inl h0.1
 ·rw [hx] at hw
  simp only [DataW.weights, ht, List.mem_cons, List.length_map] at hw
  refine .inr ⟨a, len, cap, m, hn, hcs, hl, hm, Nat.le_trans (Nat.mul_le_mul_right _ (by omega)) (hw _ (.inl rfl)), fun i hi => ?_⟩
  have h1 := hel i hi
  have h2 : i < elems.length := by omega
  rw [List.getElem?_eq_getElem h2] at h1
  cases hc : w.cells? 0 (a.add (i * P.cellsOf e)) (P.cellsOf e) with
  | none => rw [hc] at h1; simp at h1
  | some cs' =>
   rw [hc] at h1
   refine ⟨cs', rfl, elems[i], by simpa using h1, fun k hk => hw k (.inr (List.mem_append_left _ (mem_all (d := elems[i].1) ?_ k hk)))⟩
   exact List.mem_map.2 ⟨elems[i], List.getElem_mem h2, rfl⟩

theorem row_of {α : Type} {n size bytes : Nat} (Q : α → List Value → Prop) (A : Option Addr) (len cap : Nat) (ht : P.underlying t = some (.slice e)) (hs : P.cellsOf e = size) (hby : P.bytesOf e = bytes) (h0 : 0 < size)
  (hr : ∀ m cs, m < n → RdF enc P w m e cs → cs.length = size ∧ ∃ x, Q x cs) (h : RdF enc P w n t [.slice A len cap]) : ∃ xs, xs.length = len ∧ RowOf w size bytes Q A xs cap := by
 rcases rdf_slice ht h with h1 | ⟨a, len', cap', m, hn, h1, hl, hm, hb, hel⟩
 ·simp only [List.cons.injEq, and_true, Value.slice.injEq] at h1
  obtain ⟨rfl, rfl, rfl⟩ := h1
  exact ⟨[], rfl, RowOf.nil _ _ _ _ _ _ (by omega)⟩
 ·simp only [List.cons.injEq, and_true, Value.slice.injEq] at h1
  obtain ⟨rfl, rfl, rfl⟩ := h1
  rw [hs] at hel
  rw [hby] at hb
  unfold maxLen at hm
  have hch : ∀ i, ∃ cs', i < len → w.cells? 0 (a.add (i * size)) size = some cs' ∧ ∃ x, Q x cs' := by
   intro i
   by_cases hi : i < len
   ·obtain ⟨cs', h1, h2⟩ := hel i hi
    exact ⟨cs', fun _ => ⟨h1, (hr m cs' (by omega) h2).2⟩⟩
   ·exact ⟨[], fun h => absurd h hi⟩
  obtain ⟨f, hf⟩ := Classical.axiomOfChoice hch
  obtain ⟨xs, hxl, hx⟩ := slice_pick (fun i x => Q x (f i)) len (fun i hi => (hf i hi).2)
  refine ⟨xs, hxl, by omega, by omega, ?_, f, fun hne => ?_, hx⟩
  ·rw [hxl]
   have : reachBytes ≤ 140737488355328 := by decide
   omega
  ·have hpos : 0 < len := by
    rw [← hxl]
    exact List.length_pos_iff.2 hne
   obtain ⟨b, off, spot⟩ := a
   have hcell := fun i hi => (World.cells?_some (hf i hi).1)
   have h00 := (hcell 0 hpos).2.2 0 h0
   have hlen : ∀ i, i < len → (f i).length = size := fun i hi => (hcell i hi).2.1
   rw [List.getElem?_eq_getElem (by rw [hlen 0 hpos]; exact h0)] at h00
   have hspot : spot = none := by simpa [Addr.add] using World.cell?_spot h00
   subst hspot
   refine ⟨b, off, rfl, by simpa [Addr.add] using World.block_lt_of_cell? _ _ h00, fun i hi j hj => ?_⟩
   have := (hcell i (by omega)).2.2 j hj
   rw [add_plain, add_plain] at this
   exact this
end

theorem bounds_I64 {n : Int} (h : (Lit.int .i64 n).wf = true) : I64 n := bounds_i64 h
section
variable {H : Type} {enc : TypeId × Value → H} {w : World}

theorem c_int : Tryd.prog.cellsOf 3 = 1 := by kernel_rfl
theorem c_i64 : Tryd.prog.cellsOf 2 = 1 := by kernel_rfl
theorem c_str : Tryd.prog.cellsOf 9 = 1 := by kernel_rfl
theorem c_expr : Tryd.prog.cellsOf 28 = 6 := by kernel_rfl
theorem c_exprs : Tryd.prog.cellsOf 26 = 1 := by kernel_rfl
theorem c_stmt : Tryd.prog.cellsOf 63 = 19 := by kernel_rfl
theorem c_stmts : Tryd.prog.cellsOf 23 = 1 := by kernel_rfl
theorem c_blocks : Tryd.prog.cellsOf 59 = 1 := by kernel_rfl
theorem c_ints : Tryd.prog.cellsOf 42 = 1 := by kernel_rfl
theorem c_rows : Tryd.prog.cellsOf 60 = 1 := by kernel_rfl
theorem c_strs : Tryd.prog.cellsOf 61 = 1 := by kernel_rfl

theorem ex_of : ∀ n cs, RdF enc Tryd.prog w n 28 cs → cs.length = 6 ∧ ∃ x, ExAt w x cs := by
 intro n
 induction n using Nat.strongRecOn with
 | _ n ih =>
  intro cs h
  obtain ⟨hl, m, hn, hf⟩ := rdf_struct Tryd.underlying28 h
  rw [c_expr] at hl
  obtain ⟨v0, v1, v2, v3, v4, v5, rfl⟩ := list_6 cs hl
  have h0 : Rd enc Tryd.prog w 3 [v0] := by simpa [c_int] using (hf 0 _ rfl).rd
  have h1 : Rd enc Tryd.prog w 2 [v1] := by simpa [c_i64] using (hf 1 _ rfl).rd
  have h2 : Rd enc Tryd.prog w 9 [v2] := by simpa [c_str] using (hf 2 _ rfl).rd
  have h3 : Rd enc Tryd.prog w 9 [v3] := by simpa [c_str] using (hf 3 _ rfl).rd
  have h4 : RdF enc Tryd.prog w m 26 [v4] := by simpa [c_exprs] using hf 4 _ rfl
  have h5 : Rd enc Tryd.prog w 3 [v5] := by simpa [c_int] using (hf 5 _ rfl).rd
  obtain ⟨x0, e0, w0⟩ := rd_int Tryd.underlying3 h0
  obtain ⟨x1, e1, w1⟩ := rd_int Tryd.underlying2 h1
  obtain ⟨x2, e2, w2⟩ := rd_string Tryd.underlying9 h2
  obtain ⟨x3, e3, w3⟩ := rd_string Tryd.underlying9 h3
  obtain ⟨x5, e5, w5⟩ := rd_int Tryd.underlying3 h5
  have h4s : ∃ A len cap, v4 = .slice A len cap := by
   rcases rdf_slice Tryd.underlying26 h4 with h | ⟨a, len, cap, _, _, h, _⟩
   ·exact ⟨none, 0, 0, by simpa using h⟩
   ·exact ⟨some a, len, cap, by simpa using h⟩
  obtain ⟨A, len, cap, rfl⟩ := h4s
  obtain ⟨xs, hx, hr⟩ := row_of (size := 6) (bytes := 80) (ExAt w) A len cap Tryd.underlying26 c_expr (by kernel_rfl) (by decide) (fun k cs hk hcs => ih k (by omega) cs hcs) h4
  simp only [List.cons.injEq, and_true] at e0 e1 e2 e3 e5
  subst e0 e1 e2 e3 e5 hx
  exact ⟨rfl, _, .of (bounds_I64 w0) (bounds_I64 w1) (bounds_I64 w5) hr⟩

theorem slice_form {P : Program} {n : Nat} {t e : TypeId} {v : Value} (ht : P.underlying t = some (.slice e)) (h : RdF enc P w n t [v]) : ∃ A len cap, v = .slice A len cap := by
 rcases rdf_slice ht h with h | ⟨a, len, cap, _, _, h, _⟩
 ·exact ⟨none, 0, 0, by simpa using h⟩
 ·exact ⟨some a, len, cap, by simpa using h⟩

theorem list_19 {α : Type} (l : List α) (h : l.length = 19) : ∃ a0 a1 a2 a3 a4 a5 a6 a7 a8 a9 b0 b1 b2 b3 b4 b5 b6 b7 b8, l = [a0, a1, a2, a3, a4, a5, a6, a7, a8, a9, b0, b1, b2, b3, b4, b5, b6, b7, b8] := by
 match l, h with | [a0, a1, a2, a3, a4, a5, a6, a7, a8, a9, b0, b1, b2, b3, b4, b5, b6, b7, b8], _ => exact ⟨_, _, _, _, _, _, _, _, _, _, _, _, _, _, _, _, _, _, _, rfl⟩

theorem ints_of (n : Nat) (cs : List Value) (h : RdF enc Tryd.prog w n 42 cs) (hl : cs.length = 1) : ∃ zs, IntsC w zs cs := by
 obtain ⟨v, rfl⟩ := list_1 cs hl
 obtain ⟨A, len, cap, rfl⟩ := slice_form Tryd.underlying42 h
 obtain ⟨xs, rfl, hr⟩ := row_of (size := 1) (bytes := 8) (fun z c => c = [Value.int .i64 z] ∧ I64 z) A len cap Tryd.underlying42 c_i64 (by kernel_rfl) (by decide) (fun k cs hk hcs => by
  obtain ⟨z, e, wz⟩ := rd_int Tryd.underlying2 hcs.rd
  subst e
  exact ⟨rfl, z, rfl, bounds_I64 wz⟩) h
 exact ⟨xs, A, cap, rfl, hr⟩

end

end Go.Proofs.YtahjijdadifkaaaDoor
