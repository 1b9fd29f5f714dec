/- Merged: Layer 20, the reference: a variable by its name, a pin by its name. Layer 20, the reference: a pin by its name, told. -/
import Derived.Test.YtknnhnefbbjcdaaDoorM26
import Derived.Test.YtknnhnefbbjcdaaDoorM44
import Derived.Laws.CopyOwn
import Derived.Deep.WholeRow
import Derived.Test.YtknnhnefbbjcdaaDoorWild
import Derived.RegionTactic
namespace Go.Proofs.YtknnhnefbbjcdaaDoor
open Go.RowKit
set_option linter.unusedVariables false
set_option linter.unusedSimpArgs false
attribute [local go_sem] ite_max ite_min vite_max vite_min ext_cell ext_frozen extS_cell extS_frozen

def sameN (nm : ByteArray) (v : VarS) : Bool := v.name.toList == nm.toList
def findV (vs : List VarS) (nm : ByteArray) : Option VarS := vs.find? (sameN nm)
def varZ : Value := .agg #[.string ⟨#[]⟩, .int .i64 0, .int .i64 0, .bool false, .int .i64 0, .int .i64 0, .int .i64 0, .int .i64 0]
def findR : Option VarS → Value
 | some v => .tuple #[.agg v.cells.toArray, .bool true]
 | none => .tuple #[varZ, .bool false]
theorem findV_some {vs : List VarS} {nm : ByteArray} {i : Nat} {v : VarS} (hv : vs[i]? = some v) (hs : sameN nm v = true) (hn : ∀ j x, j < i → vs[j]? = some x → sameN nm x = false) : findV vs nm = some v := by
 unfold findV
 rw [List.find?_eq_some_iff_getElem]
 obtain ⟨hi, hv'⟩ := List.getElem?_eq_some_iff.1 hv
 refine ⟨hs, i, hi, hv', fun j hj => ?_⟩
 have := hn j vs[j] hj (List.getElem?_eq_getElem (by omega))
 simp [this]
theorem findV_none {vs : List VarS} {nm : ByteArray} (hn : ∀ j x, j < vs.length → vs[j]? = some x → sameN nm x = false) : findV vs nm = none := by
 unfold findV
 rw [List.find?_eq_none]
 intro x hx
 obtain ⟨j, hj⟩ := List.getElem?_of_mem hx
 have := hn j x (List.getElem?_eq_some_iff.1 hj).1 hj
 simp [this]

theorem post_row_tmp {P : Program} {fn : Func} {R : Ending → World → Prop} {a : Act} {w : World} {p q : Tmp} {ty : TypeId} {g : Nat} {t : TypeId} {cs : Array Value} {fr : Nat × Nat} {d : TypeDesc} (h : fn.results = #[.cell p ty, .tmp q])
  (hp : a.tmps.getD p undef = .pointer (some ⟨g, 0, none⟩)) (hg : w.heap[g]? = some (.cells cs t fr)) (hu : P.underlying ty = some d) (hd : (match d with | .struct _ | .array _ _ => true | _ => false) = true) (hi : (P.info? ty).map (·.size) = some cs.size)
  (hdf : a.defers = []) (hR : R (.returned (.tuple #[.agg cs, a.tmps.getD q undef])) w) : bodyPost P fn R .ret a w := bodyPost_ret (by
 have hp' : a.tmps[p]?.getD undef = .pointer (some ⟨g, 0, none⟩) := by simpa using hp
 simp [results, h, hp', asAddr, run_loadVar_row w g t ty cs fr d hg hu hd hi]) hdf hR
def varZs : Array Value := #[.string ⟨#[]⟩, .int .i64 0, .int .i64 0, .bool false, .int .i64 0, .int .i64 0, .int .i64 0, .int .i64 0]
theorem varZs_one : varZs.all (·.oneCell') = true := by simp [varZs, Value.oneCell']

set_option maxRecDepth 100000 in
set_option maxHeartbeats 4000000 in
theorem find20_any (vs : List VarS) (nm : ByteArray) (w : World) (A : Option Addr) (cap : Nat) (h : RowV w A vs cap) : Calls Tryd.prog 32 #[.slice A vs.length cap, .string nm] w fun e w' => e = .returned (findR (findV vs nm)) ∧ Below w.heap.size w w' := by
 have HR := Lib.hid h
 have hl := h.1
 have hc := h.2.1
 obtain ⟨n, hn⟩ : ∃ n, vs.length = n := ⟨_, rfl⟩
 obtain ⟨r, hr⟩ : ∃ r, findV vs nm = r := ⟨_, rfl⟩
 rw [hr]
 rw [hn] at hl ⊢
 have HN := Lib.hid hn
 have HRR := Lib.hid hr
 clear h hn hr
 go_enter Tryd.func32, Tryd.ntmps32
 go_upto_region 1 with (fail)
 refine wp_name fun W0 hW0 => ?_
 obtain ⟨B, hB⟩ : ∃ B, B = w.heap.size := ⟨_, rfl⟩
 have hh : W0.heap[B]? = some (.cells varZs 45) := by rw [hW0.out, hB]; exact heap_alloc_new _ _
 have hbel : Below w.heap.size w W0 := by rw [hW0.out]; exact belowBy
 have HH : Hid (W0.heap[B]? = some (.cells varZs 45)) := Lib.hid hh
 have HB0 := Lib.hid hbel
 have hlB : B < W0.heap.size := (Array.getElem?_eq_some_iff.1 hh).1
 have hwB : w.heap.size ≤ B := by omega
 rw [← hB]
 clear hh hbel hW0 hB
 go_wp2_with fail
 go_loopw [6] (fun vi wr => ∃ (i : Nat), i ≤ n ∧ vi = .int .i64 i ∧ Hid (∀ j x, j < i → vs[j]? = some x → sameN nm x = false) ∧ Below W0.heap.size W0 wr) (fun vi _ => n - (intOf vi).toNat)
 case atStart => exact ⟨0, by omega, rfl, Lib.hid (fun j x hj => by omega), Below.refl _ _⟩
 case round =>
  obtain ⟨i, hi, rfl, HNO, hbr⟩ := hrel
  have HHr : Hid (wr.heap[B]? = some (.cells varZs 45)) := Lib.hid ((hbr.block B hlB).trans HH.out)
  have HBB := Lib.hid (HB0.out.trans (hbr.mono HB0.out.size))
  by_cases hlt : i < n
  ·have hi0 : (0 : Int) ≤ (i : Int) ∧ (i : Int) < (n : Int) := by omega
   obtain ⟨b, off, v, rfl, hbl, hv, hrg⟩ := RowV.at8 (HR.out.below HBB.out) (i := i) (by rw [HN.out]; exact hlt)
   have HV := Lib.hid hv
   have HRG := Lib.hid hrg
   have c0 : wr.cell? ⟨b, off + i * 8, none⟩ = some (.string v.name) := hrg 0 _ rfl
   have HB := Lib.hid hbr
   clear hv hrg hbr
   cases hq : (v.name.toList == nm.toList)
   ·have HQ := Lib.hid hq
    clear hq
    have hq := HQ.out
    go_wp2
    go_roundw
    case rel =>
     refine ⟨i + 1, by omega, by go_num, Lib.hid (fun j x hj hx => ?_), HB.out⟩
     rcases Nat.lt_succ_iff_lt_or_eq.1 hj with h | rfl
     ·exact HNO.out j x h hx
     ·rw [HV.out] at hx
      cases hx
      exact HQ.out
    case measure => simp [intOf]; omega
   ·have hres : r = some v := by rw [← HRR.out]; exact findV_some HV.out hq HNO.out
    subst hres
    go_wp2_with (first
     | refine wpList_load_mid rfl 45 _ rfl b (off + i * 8) rfl v.cells _ HRG.out Tryd.underlying45 rfl var_size8 ?_
     | refine wpList_store_row rfl 45 _ _ rfl B v.cells.toArray rfl rfl 45 _ HHr.out var_size8 rfl (var_one8 v) ?_)
    refine post_row_tmp Tryd.results32 rfl (setRow_heap _ _ _ _ _ _ HHr.out) Tryd.underlying45 rfl var_size8 rfl ⟨rfl, below_setRow HBB.out hwB _⟩
  ·obtain rfl : i = n := by omega
   have hres : r = none := by rw [← HRR.out]; exact findV_none (fun j x hj hx => HNO.out j x (by rw [HN.out] at hj; exact hj) hx)
   subst hres
   go_wp2_with (refine wpList_store_row rfl 45 _ _ rfl B varZs rfl rfl 45 _ HHr.out var_size8 rfl varZs_one ?_)
   refine post_row_tmp Tryd.results32 rfl (setRow_heap _ _ _ _ _ _ HHr.out) Tryd.underlying45 rfl var_size8 rfl ⟨rfl, below_setRow HBB.out hwB _⟩

def PinR (e : Ending) : Prop := ∃ s t i b, e = .returned (.tuple #[.agg #[.string s, .int .i64 t, .bool i], .bool b])
theorem Rw.pinsK_at (r : Rw) : ∀ n k, k < n → ∃ s t b, (r.pinsK n)[k * 3]? = some (.string s) ∧ (r.pinsK n)[k * 3 + 1]? = some (.int .i64 t) ∧ (r.pinsK n)[k * 3 + 2]? = some (.bool b)
 | 0, k, h => by omega
 | n + 1, k, h => by
  have hl : ∀ m, (r.pinsK m).length = m * 3 := by
   intro m
   induction m with
   | zero => rfl
   | succ m ih => rw [Rw.pinsK, List.length_append, ih]; show m * 3 + 3 = _; omega
  rw [Rw.pinsK]
  by_cases hk : k < n
  ·rw [List.getElem?_append_left (by rw [hl]; omega), List.getElem?_append_left (by rw [hl]; omega), List.getElem?_append_left (by rw [hl]; omega)]
   exact Rw.pinsK_at r n k hk
  ·obtain rfl : k = n := by omega
   rw [List.getElem?_append_right (by rw [hl]; omega), List.getElem?_append_right (by rw [hl]; omega), List.getElem?_append_right (by rw [hl]; omega), hl]
   rw [show k * 3 - k * 3 = 0 by omega, show k * 3 + 1 - k * 3 = 1 by omega, show k * 3 + 2 - k * 3 = 2 by omega]
   exact ⟨_, _, _, rfl, rfl, rfl⟩
theorem rpins_at (kind : Int) (k : Nat) (h : k < rcount kind) : ∃ s t b, (rpinsOf kind)[k * 3]? = some (.string s) ∧ (rpinsOf kind)[k * 3 + 1]? = some (.int .i64 t) ∧ (rpinsOf kind)[k * 3 + 2]? = some (.bool b) := by
 unfold rcount at h
 unfold rpinsOf
 cases hf : rfind kind with
 | none => rw [hf] at h; simp at h
 | some r =>
  rw [hf] at h
  exact r.pinsK_at _ _ h

end Go.Proofs.YtknnhnefbbjcdaaDoor

namespace Go.Proofs.YtknnhnefbbjcdaaDoor
open Go.RowKit
set_option linter.unusedVariables false
set_option linter.unusedSimpArgs false
attribute [local go_sem] ite_max ite_min vite_max vite_min ext_cell ext_frozen extS_cell extS_frozen

def pinNm (kind : Int) (k : Nat) : ByteArray := match (rpinsOf kind)[k * 3]? with | some (.string s) => s | _ => ⟨#[]⟩
def pinTy (kind : Int) (k : Nat) : Int := match (rpinsOf kind)[k * 3 + 1]? with | some (.int _ t) => t | _ => 0
def pinIn (kind : Int) (k : Nat) : Bool := match (rpinsOf kind)[k * 3 + 2]? with | some (.bool b) => b | _ => false
theorem pin_cells {kind : Int} {k : Nat} (h : k < rcount kind) : (rpinsOf kind)[k * 3]? = some (.string (pinNm kind k)) ∧ (rpinsOf kind)[k * 3 + 1]? = some (.int .i64 (pinTy kind k)) ∧ (rpinsOf kind)[k * 3 + 2]? = some (.bool (pinIn kind k)) := by
 obtain ⟨s, t, b, h1, h2, h3⟩ := rpins_at kind k h
 unfold pinNm pinTy pinIn
 rw [h1, h2, h3]
 exact ⟨rfl, rfl, rfl⟩
def pinHit (kind : Int) (nm : ByteArray) (k : Nat) : Bool := !nm.toList.isEmpty && ((pinNm kind k).toList == nm.toList)
def pinF (kind : Int) (nm : ByteArray) : Option Nat := (List.range (rcount kind)).find? (pinHit kind nm)
def pinFV (kind : Int) : Option Nat → Value
 | some k => .tuple #[.agg #[.string (pinNm kind k), .int .i64 (pinTy kind k), .bool (pinIn kind k)], .bool true]
 | none => .tuple #[.agg #[.string ⟨#[]⟩, .int .i64 0, .bool false], .bool false]
theorem range_find {n i : Nat} {p : Nat → Bool} (hi : i < n) (hp : p i = true) (hn : ∀ j, j < i → p j = false) : (List.range n).find? p = some i := by
 rw [List.find?_eq_some_iff_getElem]
 refine ⟨hp, i, by simpa using hi, by simp, fun j hj => ?_⟩
 simp [hn j hj]
theorem range_find_none {n : Nat} {p : Nat → Bool} (hn : ∀ j, j < n → p j = false) : (List.range n).find? p = none := by
 rw [List.find?_eq_none]
 intro x hx
 simp [hn x (by simpa using hx)]
def RowK (w : World) (A : Option Addr) (kind : Int) : Prop := ∀ k, k < rcount kind → ∃ b, A = some ⟨b, 0, none⟩ ∧ b < w.heap.size ∧ w.cell? ⟨b, k * 3, none⟩ = some (.string (pinNm kind k)) ∧ w.cell? ⟨b, k * 3 + 1, none⟩ = some (.int .i64 (pinTy kind k)) ∧ w.cell? ⟨b, k * 3 + 2, none⟩ = some (.bool (pinIn kind k))
theorem RowK.below {w w' : World} {A : Option Addr} {kind : Int} (h : RowK w A kind) (hb : Below w.heap.size w w') : RowK w' A kind := fun k hk => by
 obtain ⟨b, h1, h2, h3, h4, h5⟩ := h k hk
 exact ⟨b, h1, Nat.lt_of_lt_of_le h2 hb.size, (hb.cell (p := ⟨b, _, none⟩) h2).trans h3, (hb.cell (p := ⟨b, _, none⟩) h2).trans h4, (hb.cell (p := ⟨b, _, none⟩) h2).trans h5⟩
theorem rowK_of {w : World} {H : Nat} {kind : Int} {v : Value} (ho : w.ownsRow H 57 3 v (rcount kind) (rpinsOf kind)) : ∃ A c, v = .slice A (rcount kind) c ∧ rcount kind ≤ c ∧ c ≤ 9223372036854775807 ∧ RowK w A kind := by
 have ho' := ho
 obtain ⟨h1, h2⟩ := ho
 rcases h2 with ⟨rfl, hn⟩ | ⟨g, cap, cur, rfl, hg, hh, hn, hc, hr⟩
 ·exact ⟨none, 0, by rw [hn], by omega, by omega, fun k hk => by omega⟩
 ·refine ⟨some ⟨g, 0, none⟩, cap, rfl, hn, by unfold maxLen at hc; exact hc, fun k hk => ?_⟩
  obtain ⟨e0, e1, e2⟩ := pin_cells hk
  have hx : ∀ j u, (rpinsOf kind)[j]? = some u → w.cell? ⟨g, j, none⟩ = some u := fun j u hu => by
   have := ho'.cells rfl j u hu
   have hadd : (⟨g, 0, none⟩ : Addr).add j = ⟨g, j, none⟩ := by cases j <;> simp [Addr.add]
   rwa [hadd] at this
  exact ⟨g, rfl, (Array.getElem?_eq_some_iff.1 hh).1, hx _ _ e0, hx _ _ e1, hx _ _ e2⟩
theorem rpins_rowK (kind : Int) (w : World) : Calls Tryd.prog 53 #[.int .i64 kind] w fun e w' => (∃ A c, e = .returned (.slice A (rcount kind) c) ∧ rcount kind ≤ c ∧ c ≤ 9223372036854775807 ∧ RowK w' A kind) ∧ Below w.heap.size w w' :=
 (rpins_any kind w).mono fun e w' ⟨v, he, ho, hb⟩ => by
  obtain ⟨A, c, rfl, h1, h2, h3⟩ := rowK_of ho
  exact ⟨⟨A, c, he, h1, h2, h3⟩, hb⟩

set_option maxRecDepth 100000 in
set_option maxHeartbeats 4000000 in
theorem pin20_is (kind : Int) (nm : ByteArray) (w : World) : Calls Tryd.prog 67 #[.int .i64 kind, .string nm] w fun e w' => e = .returned (pinFV kind (pinF kind nm)) ∧ Below w.heap.size w w' := by
 obtain ⟨n, hn⟩ : ∃ n, rcount kind = n := ⟨_, rfl⟩
 obtain ⟨res, hres⟩ : ∃ r, pinFV kind (pinF kind nm) = r := ⟨_, rfl⟩
 have HN := Lib.hid hn
 have HRES := Lib.hid hres
 rw [hres]
 go_enter Tryd.func67, Tryd.ntmps67
 go_wp2_with fail
 refine (rpins_rowK kind _).mono ?_
 rintro e w1 ⟨⟨A, c, rfl, hnc, hc, hrow⟩, hb1⟩
 have HR := Lib.hid hrow
 rw [hn] at hnc ⊢
 clear hn hres
 obtain ⟨hb1c, hb1f⟩ := bcell hb1
 have hb1z := hb1.size
 have hb1c0 := fun o => hb1c (w.heap.size) o (by first | (simp; done) | (simp; omega) | (simp at *; omega) | omega)
 have hb1f0 := fun o => hb1f (w.heap.size) o (by first | (simp; done) | (simp; omega) | (simp at *; omega) | omega)
 have hb1l0 := below_lt (b := w.heap.size) hb1 (by first | (simp; done) | (simp; omega) | (simp at *; omega) | omega)
 have hbw : Below w.heap.size w w1 := by exact belowBy
 have HB1 := Lib.hid hbw
 have HC : Hid (∀ W, Below w1.heap.size w1 W → W.cell? ⟨w.heap.size, 0, none⟩ = some (.string ⟨#[]⟩) ∧ W.cell? ⟨w.heap.size, 1, none⟩ = some (.int .i64 0) ∧ W.cell? ⟨w.heap.size, 2, none⟩ = some (.bool false) ∧ W.frozen? ⟨w.heap.size, 0, none⟩ = false ∧ W.frozen? ⟨w.heap.size, 1, none⟩ = false ∧ W.frozen? ⟨w.heap.size, 2, none⟩ = false ∧ w.heap.size < W.heap.size) := Lib.hid (fun W hW => by
  have hl : w.heap.size < w1.heap.size := hb1l0
  refine ⟨(hW.cell (p := ⟨w.heap.size, 0, none⟩) hl).trans (by rw [hb1c0]; go_simp), (hW.cell (p := ⟨w.heap.size, 1, none⟩) hl).trans (by rw [hb1c0]; go_simp), (hW.cell (p := ⟨w.heap.size, 2, none⟩) hl).trans (by rw [hb1c0]; go_simp), (hW.frozen (p := ⟨w.heap.size, 0, none⟩) hl).trans (by rw [hb1f0]; go_simp), (hW.frozen (p := ⟨w.heap.size, 1, none⟩) hl).trans (by rw [hb1f0]; go_simp), (hW.frozen (p := ⟨w.heap.size, 2, none⟩) hl).trans (by rw [hb1f0]; go_simp), Nat.lt_of_lt_of_le hl hW.size⟩)
 clear hrow hb1c hb1f hb1z hb1c0 hb1f0 hb1l0 hb1 hbw
 go_wp2_with fail
 go_loopw [7] (fun vi wr => ∃ (i : Nat), i ≤ n ∧ vi = .int .i64 i ∧ Hid (∀ j, j < i → pinHit kind nm j = false) ∧ Below w1.heap.size w1 wr) (fun vi _ => n - (intOf vi).toNat)
 case atStart => exact ⟨0, by omega, rfl, Lib.hid (fun j hj => by omega), Below.refl _ _⟩
 case round =>
  obtain ⟨i, hi, rfl, HNO, hbr⟩ := hrel
  obtain ⟨z0, z1, z2, f0, f1, f2, hlz⟩ := HC.out wr hbr
  have HBE := Lib.hid (HB1.out.trans (hbr.mono HB1.out.size))
  by_cases hlt : i < n
  ·have hi0 : (0 : Int) ≤ (i : Int) ∧ (i : Int) < (n : Int) := by omega
   obtain ⟨b, rfl, hbl, c0, c1, c2⟩ := HR.out.below hbr i (by rw [HN.out]; exact hlt)
   have HB := Lib.hid hbr
   obtain ⟨s, hs⟩ : ∃ s, pinNm kind i = s := ⟨_, rfl⟩
   obtain ⟨t, ht⟩ : ∃ s, pinTy kind i = s := ⟨_, rfl⟩
   obtain ⟨ii, hii⟩ : ∃ s, pinIn kind i = s := ⟨_, rfl⟩
   rw [hs] at c0
   rw [ht] at c1
   rw [hii] at c2
   have HS := Lib.hid hs
   have HT := Lib.hid ht
   have HI := Lib.hid hii
   clear hbr hs ht hii
   have hstep : pinHit kind nm i = false → ∀ j, j < i + 1 → pinHit kind nm j = false := fun h0 j hj => by
    rcases Nat.lt_succ_iff_lt_or_eq.1 hj with h | rfl
    ·exact HNO.out j h
    ·exact h0
   have HST := Lib.hid hstep
   clear hstep
   cases hq0 : (!nm.toList.isEmpty)
   ·have HQ := Lib.hid (HST.out (by unfold pinHit; rw [hq0]; rfl))
    go_wp2
    go_roundw
    case rel => exact ⟨i + 1, by omega, by go_num, HQ, HB.out⟩
    case measure => simp [intOf]; omega
   ·cases hq : (s.toList == nm.toList)
    ·have HQ := Lib.hid (HST.out (by unfold pinHit; rw [HS.out, hq0, hq]; rfl))
     go_wp2
     go_roundw
     case rel => exact ⟨i + 1, by omega, by go_num, HQ, HB.out⟩
     case measure => simp [intOf]; omega
    ·have hr2 : .tuple #[.agg #[.string s, .int .i64 t, .bool ii], .bool true] = res := by
      rw [← HRES.out, show pinF kind nm = some i from range_find (by rw [HN.out]; exact hlt) (by unfold pinHit; rw [HS.out, hq0, hq]; rfl) HNO.out]
      show _ = Value.tuple #[.agg #[.string (pinNm kind i), .int .i64 (pinTy kind i), .bool (pinIn kind i)], .bool true]
      rw [HS.out, HT.out, HI.out]
     have HR2 := Lib.hid hr2
     clear hr2
     go_wp2
     refine bodyPost_ret (v := .tuple #[.agg #[.string s, .int .i64 t, .bool ii], .bool true]) (by simp [results, Tryd.results67, go_sem, z0, z1, z2, f0, f1, f2, hlz]) rfl ⟨by rw [HR2.out], ?_⟩
     have := HBE.out
     exact belowBy
  ·obtain rfl : i = n := by omega
   have hr2 : .tuple #[.agg #[.string ⟨#[]⟩, .int .i64 0, .bool false], .bool false] = res := by
    rw [← HRES.out, show pinF kind nm = none from range_find_none (by rw [HN.out]; exact HNO.out)]
    rfl
   have HR2 := Lib.hid hr2
   clear hr2
   go_wp2
   refine bodyPost_ret (v := .tuple #[.agg #[.string ⟨#[]⟩, .int .i64 0, .bool false], .bool false]) (by simp [results, Tryd.results67, go_sem, z0, z1, z2, f0, f1, f2, hlz]) rfl ⟨by rw [HR2.out], ?_⟩
   have := HBE.out
   exact belowBy

end Go.Proofs.YtknnhnefbbjcdaaDoor
