/- Merged: Layer 20: the pins of a kind, a variable's cells. Layer 20: the library's searches, over the rows of the checker. Layer 20: a variable of a name, a pin of a name. -/
import Derived.Test.YtahjijdadifkaaaDoorM05
import Derived.Test.YtahjijdadifkaaaDoorM07
import Derived.Deep.WholeRow
import Derived.Laws.CopyOwn
set_option linter.unusedVariables false
set_option linter.unusedSimpArgs false
set_option maxHeartbeats 2000000
namespace Go.Proofs.YtahjijdadifkaaaDoor
open Go.RowKit
attribute [local go_sem] ite_max ite_min vite_max vite_min ext_cell ext_frozen extS_cell extS_frozen

def kpNm (kind : Int) (k : Nat) : ByteArray := match (pinsOf kind)[k * 3]? with | some (.string s) => s | _ => ⟨#[]⟩
def kpTy (kind : Int) (k : Nat) : Int := match (pinsOf kind)[k * 3 + 1]? with | some (.int _ t) => t | _ => 0
def kpIn (kind : Int) (k : Nat) : Bool := match (pinsOf kind)[k * 3 + 2]? with | some (.bool b) => b | _ => false
def isPin (xs : List Value) (k : Nat) : Bool := match xs[k * 3]?, xs[k * 3 + 1]?, xs[k * 3 + 2]? with
 | some (.string _), some (.int .i64 _), some (.bool _) => true
 | _, _, _ => false
theorem isPin_all : shL.all (fun s => decide (allN s ≤ 64) && (List.range (allN s)).all (isPin (allPins s))) = true := by kernel_rfl
theorem count_few (kind : Int) : countOf kind ≤ 64 := by
 unfold countOf
 cases h : shL.find? (fun s => decide (s.kind = kind)) with
 | none => exact Nat.zero_le _
 | some s =>
  have := List.all_eq_true.1 isPin_all s (List.mem_of_find?_eq_some h)
  simp only [Bool.and_eq_true, decide_eq_true_eq] at this
  exact this.1
theorem kp_cells {kind : Int} {k : Nat} (h : k < countOf kind) : (pinsOf kind)[k * 3]? = some (.string (kpNm kind k)) ∧ (pinsOf kind)[k * 3 + 1]? = some (.int .i64 (kpTy kind k)) ∧ (pinsOf kind)[k * 3 + 2]? = some (.bool (kpIn kind k)) := by
 have hp : isPin (pinsOf kind) k = true := by
  unfold countOf at h
  unfold pinsOf
  cases hf : shL.find? (fun s => decide (s.kind = kind)) with
  | none => rw [hf] at h; exact absurd h (Nat.not_lt_zero _)
  | some s =>
   rw [hf] at h
   have := List.all_eq_true.1 isPin_all s (List.mem_of_find?_eq_some hf)
   simp only [Bool.and_eq_true] at this
   exact List.all_eq_true.1 this.2 k (by simpa using h)
 unfold isPin at hp
 unfold kpNm kpTy kpIn
 split at hp
 ·rename_i h1 h2 h3
  rw [h1, h2, h3]
  exact ⟨rfl, rfl, rfl⟩
 ·cases hp
def kpHit (kind : Int) (nm : ByteArray) (k : Nat) : Bool := ((kpNm kind k).toList == nm.toList) && !nm.toList.isEmpty
def kpF (kind : Int) (nm : ByteArray) : Option Nat := (List.range (countOf kind)).find? (kpHit kind nm)
theorem kp_find {n i : Nat} {p : Nat → Bool} (hi : i < n) (hp : p i = true) (hn : ∀ j, j < i → p j = false) : (List.range n).find? p = some i := by
 rw [List.find?_eq_some_iff_getElem]
 refine ⟨hp, i, by simpa using hi, by simp, fun j hj => ?_⟩
 simp [hn j hj]
theorem kp_find_none {n : Nat} {p : Nat → Bool} (hn : ∀ j, j < n → p j = false) : (List.range n).find? p = none := by
 rw [List.find?_eq_none]
 intro x hx
 simp [hn x (by simpa using hx)]
theorem kpF_lt {kind : Int} {nm : ByteArray} {k : Nat} (h : kpF kind nm = some k) : k < countOf kind := by
 have := List.mem_of_find?_eq_some h
 simpa using this
def RowKp (w : World) (A : Option Addr) (kind : Int) : Prop := ∀ k, k < countOf kind → ∃ b, A = some ⟨b, 0, none⟩ ∧ b < w.heap.size ∧ w.cell? ⟨b, k * 3, none⟩ = some (.string (kpNm kind k)) ∧ w.cell? ⟨b, k * 3 + 1, none⟩ = some (.int .i64 (kpTy kind k)) ∧ w.cell? ⟨b, k * 3 + 2, none⟩ = some (.bool (kpIn kind k))
theorem RowKp.below {w w' : World} {A : Option Addr} {kind : Int} (h : RowKp w A kind) (hb : Below w.heap.size w w') : RowKp w' A kind := fun k hk => by
 obtain ⟨b, h1, h2, h3, h4, h5⟩ := h k hk
 exact ⟨b, h1, Nat.lt_of_lt_of_le h2 hb.size, (hb.cell (p := ⟨b, _, none⟩) h2).trans h3, (hb.cell (p := ⟨b, _, none⟩) h2).trans h4, (hb.cell (p := ⟨b, _, none⟩) h2).trans h5⟩
theorem rowKp_of {w : World} {H : Nat} {kind : Int} {v : Value} (ho : w.ownsRow H 106 3 v (countOf kind) (pinsOf kind)) : ∃ A c, v = .slice A (countOf kind) c ∧ countOf kind ≤ c ∧ c ≤ 9223372036854775807 ∧ RowKp w A kind := by
 have ho' := ho
 obtain ⟨h1, h2⟩ := ho
 rcases h2 with ⟨rfl, hn⟩ | ⟨g, cap, cur, rfl, hg, hh, hn, hc, hr⟩
 ·exact ⟨none, 0, by rw [hn], by omega, by omega, fun k hk => by omega⟩
 ·refine ⟨some ⟨g, 0, none⟩, cap, rfl, hn, by unfold maxLen at hc; exact hc, fun k hk => ?_⟩
  obtain ⟨e0, e1, e2⟩ := kp_cells hk
  have hx : ∀ j u, (pinsOf kind)[j]? = some u → w.cell? ⟨g, j, none⟩ = some u := fun j u hu => by
   have := ho'.cells rfl j u hu
   have hadd : (⟨g, 0, none⟩ : Addr).add j = ⟨g, j, none⟩ := by cases j <;> simp [Addr.add]
   rwa [hadd] at this
  exact ⟨g, rfl, (Array.getElem?_eq_some_iff.1 hh).1, hx _ _ e0, hx _ _ e1, hx _ _ e2⟩
theorem pins_rowKp (kind : Int) (w : World) (ht : Blanks w) : Calls Tryd.prog 54 #[.int .i64 kind] w fun e w' => (∃ A c, e = .returned (.slice A (countOf kind) c) ∧ countOf kind ≤ c ∧ c ≤ 9223372036854775807 ∧ RowKp w' A kind) ∧ Below w.heap.size w w' :=
 (pins_any kind w ht).mono fun e w' ⟨v, he, ho, hb⟩ => by
  obtain ⟨A, c, rfl, h1, h2, h3⟩ := rowKp_of ho
  exact ⟨⟨A, c, he, h1, h2, h3⟩, hb⟩

def ArrOk (v : VarS) : Prop := v.arr = true → 0 ≤ v.lo ∧ v.lo ≤ v.hi ∧ v.hi ≤ 255
theorem VarFit.arrOk {v : VarS} (h : VarFit v) : ArrOk v := fun ha => (h.ar ha).2
def cellsK (v : VarS) : Nat := if v.arr = true then (v.hi - v.lo + 1).toNat else if 2 < v.type then countOf v.type else 1

set_option maxRecDepth 100000 in
theorem kcells_is (v : VarS) (hv : ArrOk v) (w : World) (ht : Blanks w) : Calls Tryd.prog 38 #[.agg v.cells.toArray] w fun e w' => e = .returned (.int .i64 (cellsK v)) ∧ Below w.heap.size w w' := by
 obtain ⟨c, hc⟩ : ∃ c : Nat, cellsK v = c := ⟨_, rfl⟩
 have hc' := hc
 unfold cellsK at hc'
 rw [hc]
 have HC := Lib.hid hc
 have HT := Lib.hid ht
 obtain ⟨ty, hty⟩ : ∃ x, v.type = x := ⟨_, rfl⟩
 obtain ⟨ar, har⟩ : ∃ x, v.arr = x := ⟨_, rfl⟩
 obtain ⟨lo, hlo⟩ : ∃ x, v.lo = x := ⟨_, rfl⟩
 obtain ⟨hi, hhi⟩ : ∃ x, v.hi = x := ⟨_, rfl⟩
 unfold ArrOk at hv
 rw [hty, har, hlo, hhi] at hc'
 rw [har, hlo, hhi] at hv
 clear hc ht
 go_enter Tryd.func38, Tryd.ntmps38
 go_upto_region 1 with (refine wpList_boxTo rfl 47 _ rfl _ rfl _ rfl v.cells.toArray rfl ?_)
 refine wp_name fun W hW => ?_
 obtain ⟨B, hB⟩ : ∃ B, B = w.heap.size := ⟨_, rfl⟩
 have hh : W.heap[B]? = some (.cells v.cells.toArray 47) := by rw [hW.out, hB]; exact heap_alloc_new _ _
 have v1 : W.cell? ⟨B, 1, none⟩ = some (.int .i64 ty) := by rw [← hty]; exact heap_cell 1 _ hh rfl
 have v3 : W.cell? ⟨B, 3, none⟩ = some (.bool ar) := by rw [← har]; exact heap_cell 3 _ hh rfl
 have v4 : W.cell? ⟨B, 4, none⟩ = some (.int .i64 lo) := by rw [← hlo]; exact heap_cell 4 _ hh rfl
 have v5 : W.cell? ⟨B, 5, none⟩ = some (.int .i64 hi) := by rw [← hhi]; exact heap_cell 5 _ hh rfl
 have hbel : Below w.heap.size w W := by rw [hW.out]; exact belowBy
 have HTW := Lib.hid (HT.out.on hbel)
 rw [← hB]
 clear hW hB hh hty har hlo hhi HT
 cases ar
 ·simp only [Bool.false_eq_true, if_false] at hc'
  by_cases h2 : 2 < ty
  ·rw [if_pos h2] at hc'
   go_wp2_with fail
   refine (pins_rowKp ty _ HTW.out).mono ?_
   rintro e w1 ⟨⟨A, cp, rfl, -, -, -⟩, hb⟩
   rw [hc']
   go_wp2
   go_ret
   exact ⟨rfl, by exact belowBy⟩
  ·rw [if_neg h2] at hc'
   subst hc'
   go_wp2
   go_ret
   exact ⟨rfl, by exact belowBy⟩
 ·obtain ⟨h1, h2, h3⟩ := hv rfl
  simp only [if_true] at hc'
  have hce : hi - lo + 1 = (c : Int) := by omega
  go_wp2
  go_ret
  refine ⟨?_, by exact belowBy⟩
  congr 2


def ixO : Option Nat → Int
 | some k => k
 | none => -1
theorem fi_some {α : Type} {l : List α} {p : α → Bool} {i : Nat} {x : α} (hx : l[i]? = some x) (hp : p x = true) (hn : ∀ j y, j < i → l[j]? = some y → p y = false) : l.findIdx? p = some i := by
 obtain ⟨hi, rfl⟩ := List.getElem?_eq_some_iff.1 hx
 rw [List.findIdx?_eq_some_iff_getElem]
 exact ⟨hi, hp, fun j hj => by simpa using hn j _ hj (List.getElem?_eq_getElem (by omega))⟩
theorem fi_none {α : Type} {l : List α} {p : α → Bool} (hn : ∀ j y, j < l.length → l[j]? = some y → p y = false) : l.findIdx? p = none := by
 rw [List.findIdx?_eq_none_iff]
 intro x hx
 obtain ⟨j, hj⟩ := List.getElem?_of_mem hx
 exact hn j x (List.getElem?_eq_some_iff.1 hj).1 hj
theorem ixO_pos {α : Type} {l : List α} {p : α → Bool} : (decide (0 ≤ ixO (l.findIdx? p))) = l.any p := by
 cases h : l.findIdx? p with
 | none =>
  rw [List.findIdx?_eq_none_iff] at h
  have : l.any p = false := by rw [List.any_eq_false]; intro x hx; simp [h x hx]
  rw [this]
  decide
 | some i =>
  rw [List.findIdx?_eq_some_iff_getElem] at h
  obtain ⟨hi, hp, _⟩ := h
  have : l.any p = true := by rw [List.any_eq_true]; exact ⟨_, List.getElem_mem hi, hp⟩
  rw [this]
  simp [ixO]
  try omega

set_option maxRecDepth 100000 in
theorem kix_var (F : FuncId) (caps : Array Value) (p : VarS → Bool) (vs : List VarS) (A : Option Addr) (c : Nat) (w : World) (hr : RowV w A vs c)
  (hcf : ∀ (args : Array Value) (w : World), Sem.run Tryd.prog (callFunc F args) w = .ok (.enter F args) w)
  (hF : ∀ v w', Below w.heap.size w w' → Calls Tryd.prog F (#[.agg v.cells.toArray] ++ caps) w' fun e w'' => e = .returned (.bool (p v)) ∧ Below w'.heap.size w' w'') :
  Calls Tryd.prog 53 #[.slice A vs.length c, .func (.func F) #[] caps] w fun e w' => e = .returned (.int .i64 (ixO (vs.findIdx? p))) ∧ Below w.heap.size w w' := by
 obtain ⟨n, hn⟩ : ∃ n, vs.length = n := ⟨_, rfl⟩
 obtain ⟨res, hres⟩ : ∃ r, vs.findIdx? p = r := ⟨_, rfl⟩
 have HRES := Lib.hid hres
 have HN := Lib.hid hn
 have HF := Lib.hid hF
 have HC := Lib.hid hr
 have hc1 := hr.1
 have hc2 := hr.2.1
 rw [hres]
 rw [hn] at hc1 ⊢
 clear hF hr hn hres
 go_enter Tryd.func53, Tryd.ntmps53
 go_wp2_with fail
 go_loopw [8] (fun u wr => ∃ k : Nat, k ≤ n ∧ u = .int .i64 k ∧ Hid (∀ j y, j < k → vs[j]? = some y → p y = false) ∧ Below w.heap.size w wr) (fun u _ => n - (intOf u).toNat)
 case atStart => exact ⟨0, by omega, rfl, Lib.hid (fun j y hj => by omega), Below.refl _ _⟩
 case round =>
  obtain ⟨k, hk, rfl, HK, hbr⟩ := hrel
  by_cases hlt : k < n
  ·obtain ⟨b, off, v, rfl, hbl, hv, hrg⟩ := RowV.at8 (HC.out.below hbr) (i := k) (by rw [HN.out]; exact hlt)
   have hk0 : (0 : Int) ≤ (k : Int) := by omega
   have hkn : (k : Int) < (n : Int) := by omega
   have HFk := HF.out v wr hbr
   have HV := Lib.hid hv
   have HRG := Lib.hid hrg
   clear hv hrg
   cases hp : p v
   ·rw [hp] at HFk
    have HP := Lib.hid hp
    have HF2 := Lib.hid HFk
    clear hp HFk
    go_wp2_with (refine wpList_load_mid rfl 47 _ rfl b (off + k * 8) rfl v.cells _ HRG.out Tryd.underlying47 rfl var_size8 ?_)
    refine HF2.out.mono ?_
    rintro e w' ⟨rfl, hb2⟩
    go_wp2
    go_roundw
    case rel =>
     refine ⟨k + 1, by omega, by go_num, Lib.hid (fun j y hj hy => ?_), by exact belowBy⟩
     rcases Nat.lt_succ_iff_lt_or_eq.1 hj with h | rfl
     ·exact HK.out j y h hy
     ·rw [HV.out] at hy
      cases hy
      exact HP.out
    case measure => simp [intOf]; omega
   ·rw [hp] at HFk
    have hr2 : res = some k := by rw [← HRES.out]; exact fi_some HV.out hp HK.out
    subst hr2
    have HF2 := Lib.hid HFk
    clear hp HFk HRES
    go_wp2_with (refine wpList_load_mid rfl 47 _ rfl b (off + k * 8) rfl v.cells _ HRG.out Tryd.underlying47 rfl var_size8 ?_)
    refine HF2.out.mono ?_
    rintro e w' ⟨rfl, hb2⟩
    go_wp2
    go_ret
    exact ⟨rfl, by exact belowBy⟩
  ·obtain rfl : k = n := by omega
   have hr2 : res = none := by rw [← HRES.out]; exact fi_none (fun j y hj => HK.out j y (by rw [HN.out] at hj; exact hj))
   subst hr2
   clear HRES
   go_wp2
   go_ret
   exact ⟨rfl, hbr⟩

def KInts (w : World) (A : Option Addr) (zs : List Int) (c : Nat) : Prop := zs.length ≤ c ∧ c ≤ 9223372036854775807 ∧ ∀ k z, zs[k]? = some z → ∃ b off, A = some ⟨b, off, none⟩ ∧ b < w.heap.size ∧ w.cell? ⟨b, off + k, none⟩ = some (.int .i64 z)
theorem KInts.below {w w' : World} {A : Option Addr} {zs : List Int} {c : Nat} (h : KInts w A zs c) (hb : Below w.heap.size w w') : KInts w' A zs c :=
 ⟨h.1, h.2.1, fun k z hz => by
  obtain ⟨b, off, h1, h2, h3⟩ := h.2.2 k z hz
  exact ⟨b, off, h1, Nat.lt_of_lt_of_le h2 hb.size, (hb.cell (p := ⟨b, _, none⟩) h2).trans h3⟩⟩

set_option maxRecDepth 100000 in
theorem kix_int (F : FuncId) (caps : Array Value) (p : Int → Bool) (zs : List Int) (A : Option Addr) (c : Nat) (w : World) (hr : KInts w A zs c)
  (hcf : ∀ (args : Array Value) (w : World), Sem.run Tryd.prog (callFunc F args) w = .ok (.enter F args) w)
  (hF : ∀ v w', Below w.heap.size w w' → Calls Tryd.prog F (#[.int .i64 v] ++ caps) w' fun e w'' => e = .returned (.bool (p v)) ∧ Below w'.heap.size w' w'') :
  Calls Tryd.prog 75 #[.slice A zs.length c, .func (.func F) #[] caps] w fun e w' => e = .returned (.int .i64 (ixO (zs.findIdx? p))) ∧ Below w.heap.size w w' := by
 obtain ⟨n, hn⟩ : ∃ n, zs.length = n := ⟨_, rfl⟩
 obtain ⟨res, hres⟩ : ∃ r, zs.findIdx? p = r := ⟨_, rfl⟩
 have HRES := Lib.hid hres
 have HN := Lib.hid hn
 have HF := Lib.hid hF
 have HC := Lib.hid hr
 have hc1 := hr.1
 have hc2 := hr.2.1
 rw [hres]
 rw [hn] at hc1 ⊢
 clear hF hr hn hres
 go_enter Tryd.func75, Tryd.ntmps75
 go_wp2_with fail
 go_loopw [8] (fun u wr => ∃ k : Nat, k ≤ n ∧ u = .int .i64 k ∧ Hid (∀ j y, j < k → zs[j]? = some y → p y = false) ∧ Below w.heap.size w wr) (fun u _ => n - (intOf u).toNat)
 case atStart => exact ⟨0, by omega, rfl, Lib.hid (fun j y hj => by omega), Below.refl _ _⟩
 case round =>
  obtain ⟨k, hk, rfl, HK, hbr⟩ := hrel
  by_cases hlt : k < n
  ·obtain ⟨v, hv⟩ : ∃ v, zs[k]? = some v := ⟨_, List.getElem?_eq_getElem (by rw [HN.out]; exact hlt)⟩
   obtain ⟨b, off, rfl, hbl, hcell⟩ := (HC.out.below hbr).2.2 k v hv
   have hk0 : (0 : Int) ≤ (k : Int) := by omega
   have hkn : (k : Int) < (n : Int) := by omega
   have HFk := HF.out v wr hbr
   have HV := Lib.hid hv
   clear hv
   cases hp : p v
   ·rw [hp] at HFk
    have HP := Lib.hid hp
    have HF2 := Lib.hid HFk
    clear hp HFk
    go_wp2_with fail
    refine HF2.out.mono ?_
    rintro e w' ⟨rfl, hb2⟩
    go_wp2
    go_roundw
    case rel =>
     refine ⟨k + 1, by omega, by go_num, Lib.hid (fun j y hj hy => ?_), by exact belowBy⟩
     rcases Nat.lt_succ_iff_lt_or_eq.1 hj with h | rfl
     ·exact HK.out j y h hy
     ·rw [HV.out] at hy
      cases hy
      exact HP.out
    case measure => simp [intOf]; omega
   ·rw [hp] at HFk
    have hr2 : res = some k := by rw [← HRES.out]; exact fi_some HV.out hp HK.out
    subst hr2
    have HF2 := Lib.hid HFk
    clear hp HFk HRES
    go_wp2_with fail
    refine HF2.out.mono ?_
    rintro e w' ⟨rfl, hb2⟩
    go_wp2
    go_ret
    exact ⟨rfl, by exact belowBy⟩
  ·obtain rfl : k = n := by omega
   have hr2 : res = none := by rw [← HRES.out]; exact fi_none (fun j y hj => HK.out j y (by rw [HN.out] at hj; exact hj))
   subst hr2
   clear HRES
   go_wp2
   go_ret
   exact ⟨rfl, hbr⟩

set_option maxRecDepth 100000 in
theorem kix_pin (F : FuncId) (caps : Array Value) (p : Nat → Bool) (kind : Int) (A : Option Addr) (c : Nat) (w : World) (hcap : countOf kind ≤ c ∧ c ≤ 9223372036854775807) (hr : RowKp w A kind)
  (hcf : ∀ (args : Array Value) (w : World), Sem.run Tryd.prog (callFunc F args) w = .ok (.enter F args) w)
  (hF : ∀ (k : Nat) w', Below w.heap.size w w' → Calls Tryd.prog F (#[.agg #[.string (kpNm kind k), .int .i64 (kpTy kind k), .bool (kpIn kind k)]] ++ caps) w' fun e w'' => e = .returned (.bool (p k)) ∧ Below w'.heap.size w' w'') :
  Calls Tryd.prog 73 #[.slice A (countOf kind) c, .func (.func F) #[] caps] w fun e w' => e = .returned (.int .i64 (ixO ((List.range (countOf kind)).find? p))) ∧ Below w.heap.size w w' := by
 obtain ⟨n, hn⟩ : ∃ n, countOf kind = n := ⟨_, rfl⟩
 obtain ⟨res, hres⟩ : ∃ r, (List.range (countOf kind)).find? p = r := ⟨_, rfl⟩
 have HRES := Lib.hid hres
 have HN := Lib.hid hn
 have HF := Lib.hid hF
 have HC := Lib.hid hr
 rw [hres]
 rw [hn] at hcap ⊢
 obtain ⟨hc1, hc2⟩ := hcap
 clear hF hr hn hres
 go_enter Tryd.func73, Tryd.ntmps73
 go_wp2_with fail
 go_loopw [8] (fun u wr => ∃ k : Nat, k ≤ n ∧ u = .int .i64 k ∧ Hid (∀ j, j < k → p j = false) ∧ Below w.heap.size w wr) (fun u _ => n - (intOf u).toNat)
 case atStart => exact ⟨0, by omega, rfl, Lib.hid (fun j hj => by omega), Below.refl _ _⟩
 case round =>
  obtain ⟨k, hk, rfl, HK, hbr⟩ := hrel
  by_cases hlt : k < n
  ·obtain ⟨b, rfl, hbl, c0, c1, c2⟩ := HC.out.below hbr k (by rw [HN.out]; exact hlt)
   have hk0 : (0 : Int) ≤ (k : Int) := by omega
   have hkn : (k : Int) < (n : Int) := by omega
   have HFk := HF.out k wr hbr
   obtain ⟨s0, hs0⟩ : ∃ x, kpNm kind k = x := ⟨_, rfl⟩
   obtain ⟨s1, hs1⟩ : ∃ x, kpTy kind k = x := ⟨_, rfl⟩
   obtain ⟨s2, hs2⟩ : ∃ x, kpIn kind k = x := ⟨_, rfl⟩
   rw [hs0] at c0
   rw [hs1] at c1
   rw [hs2] at c2
   rw [hs0, hs1, hs2] at HFk
   clear hs0 hs1 hs2
   cases hp : p k
   ·rw [hp] at HFk
    have HP := Lib.hid hp
    have HF2 := Lib.hid HFk
    clear hp HFk
    go_wp2_with fail
    refine HF2.out.mono ?_
    rintro e w' ⟨rfl, hb2⟩
    go_wp2
    go_roundw
    case rel =>
     refine ⟨k + 1, by omega, by go_num, Lib.hid (fun j hj => ?_), by exact belowBy⟩
     rcases Nat.lt_succ_iff_lt_or_eq.1 hj with h | rfl
     ·exact HK.out j h
     ·exact HP.out
    case measure => simp [intOf]; omega
   ·rw [hp] at HFk
    have hr2 : res = some k := by rw [← HRES.out]; exact kp_find (by rw [HN.out]; exact hlt) hp HK.out
    subst hr2
    have HF2 := Lib.hid HFk
    clear hp HFk HRES
    go_wp2_with fail
    refine HF2.out.mono ?_
    rintro e w' ⟨rfl, hb2⟩
    go_wp2
    go_ret
    exact ⟨rfl, by exact belowBy⟩
  ·obtain rfl : k = n := by omega
   have hr2 : res = none := by rw [← HRES.out]; exact kp_find_none (fun j hj => HK.out j (by rw [HN.out] at hj; exact hj))
   subst hr2
   clear HRES
   go_wp2
   go_ret
   exact ⟨rfl, hbr⟩

set_option maxRecDepth 100000 in
theorem kix_str (fs : List ByteArray) (nm : ByteArray) (b off c : Nat) (w : World) (hl : fs.length ≤ c) (hc : c ≤ 9223372036854775807) (hb : b < w.heap.size) (hr : ∀ k s, fs[k]? = some s → w.cell? ⟨b, off + k, none⟩ = some (.string s)) :
  Calls Tryd.prog 81 #[.slice (some ⟨b, off, none⟩) fs.length c, .string nm] w fun e w' => e = .returned (.int .i64 (ixO (fs.findIdx? fun s => nm.toList == s.toList))) ∧ Below w.heap.size w w' := by
 obtain ⟨n, hn⟩ : ∃ n, fs.length = n := ⟨_, rfl⟩
 obtain ⟨res, hres⟩ : ∃ r, (fs.findIdx? fun s => nm.toList == s.toList) = r := ⟨_, rfl⟩
 have HRES := Lib.hid hres
 have HN := Lib.hid hn
 have HC := Lib.hid hr
 rw [hres]
 rw [hn] at hl ⊢
 clear hr hn hres
 go_enter Tryd.func81, Tryd.ntmps81
 go_wp2_with fail
 go_loopw [8] (fun u wr => ∃ k : Nat, k ≤ n ∧ u = .int .i64 k ∧ Hid (∀ j y, j < k → fs[j]? = some y → (nm.toList == y.toList) = false) ∧ Below w.heap.size w wr) (fun u _ => n - (intOf u).toNat)
 case atStart => exact ⟨0, by omega, rfl, Lib.hid (fun j y hj => by omega), Below.refl _ _⟩
 case round =>
  obtain ⟨k, hk, rfl, HK, hbr⟩ := hrel
  by_cases hlt : k < n
  ·obtain ⟨v, hv⟩ : ∃ v, fs[k]? = some v := ⟨_, List.getElem?_eq_getElem (by rw [HN.out]; exact hlt)⟩
   have hcell := (hbr.cell (p := ⟨b, off + k, none⟩) hb).trans (HC.out k v hv)
   have hbl : b < wr.heap.size := Nat.lt_of_lt_of_le hb hbr.size
   have hk0 : (0 : Int) ≤ (k : Int) := by omega
   have hkn : (k : Int) < (n : Int) := by omega
   have HV := Lib.hid hv
   clear hv
   cases hp : (nm.toList == v.toList)
   ·have HP := Lib.hid hp
    go_wp2
    go_roundw
    case rel =>
     refine ⟨k + 1, by omega, by go_num, Lib.hid (fun j y hj hy => ?_), by exact belowBy⟩
     rcases Nat.lt_succ_iff_lt_or_eq.1 hj with h | rfl
     ·exact HK.out j y h hy
     ·rw [HV.out] at hy
      cases hy
      exact HP.out
    case measure => simp [intOf]; omega
   ·have hr2 : res = some k := by rw [← HRES.out]; exact fi_some HV.out hp HK.out
    subst hr2
    clear HRES
    go_wp2
    go_ret
    exact ⟨rfl, by exact belowBy⟩
  ·obtain rfl : k = n := by omega
   have hr2 : res = none := by rw [← HRES.out]; exact fi_none (fun j y hj => HK.out j y (by rw [HN.out] at hj; exact hj))
   subst hr2
   clear HRES
   go_wp2
   go_ret
   exact ⟨rfl, hbr⟩

theorem khas_str (fs : List ByteArray) (nm : ByteArray) (b off c : Nat) (w : World) (hl : fs.length ≤ c) (hc : c ≤ 9223372036854775807) (hb : b < w.heap.size) (hr : ∀ k s, fs[k]? = some s → w.cell? ⟨b, off + k, none⟩ = some (.string s)) :
  Calls Tryd.prog 72 #[.slice (some ⟨b, off, none⟩) fs.length c, .string nm] w fun e w' => e = .returned (.bool (fs.any fun s => nm.toList == s.toList)) ∧ Below w.heap.size w w' := by
 have H := Lib.hid (kix_str fs nm b off c w hl hc hb hr)
 rw [← ixO_pos]
 obtain ⟨r, hr⟩ : ∃ r, ixO (fs.findIdx? fun s => nm.toList == s.toList) = r := ⟨_, rfl⟩
 rw [hr] at H ⊢
 clear hr hl hc hb
 go_enter Tryd.func72, Tryd.ntmps72
 go_wp2_with fail
 refine H.out.mono ?_
 rintro e w' ⟨rfl, hb⟩
 go_wp2
 go_ret
 exact ⟨rfl, hb⟩

theorem khas_var (F : FuncId) (caps : Array Value) (p : VarS → Bool) (vs : List VarS) (A : Option Addr) (c : Nat) (w : World) (hr : RowV w A vs c)
  (hcf : ∀ (args : Array Value) (w : World), Sem.run Tryd.prog (callFunc F args) w = .ok (.enter F args) w)
  (hF : ∀ v w', Below w.heap.size w w' → Calls Tryd.prog F (#[.agg v.cells.toArray] ++ caps) w' fun e w'' => e = .returned (.bool (p v)) ∧ Below w'.heap.size w' w'') :
  Calls Tryd.prog 36 #[.slice A vs.length c, .func (.func F) #[] caps] w fun e w' => e = .returned (.bool (vs.any p)) ∧ Below w.heap.size w w' := by
 have H := Lib.hid (kix_var F caps p vs A c w hr hcf hF)
 rw [← ixO_pos]
 obtain ⟨r, hr'⟩ : ∃ r, ixO (vs.findIdx? p) = r := ⟨_, rfl⟩
 rw [hr'] at H ⊢
 clear hr' hF hr
 go_enter Tryd.func36, Tryd.ntmps36
 go_wp2_with fail
 refine H.out.mono ?_
 rintro e w' ⟨rfl, hb⟩
 go_wp2
 go_ret
 exact ⟨rfl, hb⟩

theorem khas_int (F : FuncId) (caps : Array Value) (p : Int → Bool) (zs : List Int) (A : Option Addr) (c : Nat) (w : World) (hr : KInts w A zs c)
  (hcf : ∀ (args : Array Value) (w : World), Sem.run Tryd.prog (callFunc F args) w = .ok (.enter F args) w)
  (hF : ∀ v w', Below w.heap.size w w' → Calls Tryd.prog F (#[.int .i64 v] ++ caps) w' fun e w'' => e = .returned (.bool (p v)) ∧ Below w'.heap.size w' w'') :
  Calls Tryd.prog 65 #[.slice A zs.length c, .func (.func F) #[] caps] w fun e w' => e = .returned (.bool (zs.any p)) ∧ Below w.heap.size w w' := by
 have H := Lib.hid (kix_int F caps p zs A c w hr hcf hF)
 rw [← ixO_pos]
 obtain ⟨r, hr'⟩ : ∃ r, ixO (zs.findIdx? p) = r := ⟨_, rfl⟩
 rw [hr'] at H ⊢
 clear hr' hF hr
 go_enter Tryd.func65, Tryd.ntmps65
 go_wp2_with fail
 refine H.out.mono ?_
 rintro e w' ⟨rfl, hb⟩
 go_wp2
 go_ret
 exact ⟨rfl, hb⟩

def allT (l : List Int) (t : Int) : Bool := !l.any fun x => x != t
theorem cf_all1 (args : Array Value) (w : World) : Sem.run Tryd.prog (callFunc 66 args) w = .ok (.enter 66 args) w := by
 go_simp

theorem all1_any (x t : Int) (c : Nat) (w : World) (hc : w.cell? ⟨c, 0, none⟩ = some (.int .i64 t)) (hl : c < w.heap.size) :
  Calls Tryd.prog 66 #[.int .i64 x, .pointer (some ⟨c, 0, none⟩)] w fun e w' => e = .returned (.bool (x != t)) ∧ Below w.heap.size w w' := by
 go_enter Tryd.func66, Tryd.ntmps66
 go_wp2
 go_ret
 exact ⟨rfl, by exact belowBy⟩

theorem kall_any (zs : List Int) (t : Int) (A : Option Addr) (c : Nat) (w : World) (hr : KInts w A zs c) :
  Calls Tryd.prog 45 #[.slice A zs.length c, .int .i64 t] w fun e w' => e = .returned (.bool (allT zs t)) ∧ Below w.heap.size w w' := by
 have HR := Lib.hid hr
 obtain ⟨n, hn⟩ : ∃ n, zs.length = n := ⟨_, rfl⟩
 have HN := Lib.hid hn
 rw [hn]
 clear hr hn
 go_enter Tryd.func45, Tryd.ntmps45
 go_upto_region 1 with (fail)
 refine wp_name fun W hW => ?_
 obtain ⟨B, hB⟩ : ∃ B, B = w.heap.size := ⟨_, rfl⟩
 have c0 : W.cell? ⟨B, 0, none⟩ = some (.int .i64 t) := by rw [hW.out, hB]; go_simp
 have lB : B < W.heap.size := by rw [hW.out, hB]; simp
 have hbel : Below w.heap.size w W := by rw [hW.out]; exact belowBy
 have HB := Lib.hid hbel
 rw [← hB]
 clear hW hbel hB
 have H : Hid (Calls Tryd.prog 65 #[.slice A n c, .func (.func 66) #[] #[.pointer (some ⟨B, 0, none⟩)]] W fun e w' => e = .returned (.bool (zs.any fun x => x != t)) ∧ Below W.heap.size W w') := Lib.hid (by
  rw [← HN.out]
  exact khas_int _ _ (fun x => x != t) zs A c W (HR.out.below HB.out) cf_all1 (fun v w' hb => all1_any v t B w' ((hb.cell (p := ⟨B, 0, none⟩) lB).trans c0) (Nat.lt_of_lt_of_le lB hb.size)))
 clear HR
 go_wp2_with fail
 refine H.out.mono ?_
 rintro e w' ⟨rfl, hb⟩
 have hb2 := HB.out.trans (hb.mono HB.out.size)
 go_wp2
 go_ret
 exact ⟨rfl, hb2⟩


def sameV (nm : ByteArray) (v : VarS) : Bool := v.name.toList == nm.toList
def varF (vs : List VarS) (nm : ByteArray) : Option VarS := vs.find? (sameV nm)
theorem varF_ix (vs : List VarS) (nm : ByteArray) : (∃ i v, vs.findIdx? (sameV nm) = some i ∧ i < vs.length ∧ vs[i]? = some v ∧ varF vs nm = some v) ∨ (vs.findIdx? (sameV nm) = none ∧ varF vs nm = none) := by
 cases h : vs.findIdx? (sameV nm) with
 | none =>
  refine Or.inr ⟨rfl, ?_⟩
  rw [List.findIdx?_eq_none_iff] at h
  unfold varF
  rw [List.find?_eq_none]
  intro x hx
  simp [h x hx]
 | some i =>
  rw [List.findIdx?_eq_some_iff_getElem] at h
  obtain ⟨hi, hp, hn⟩ := h
  refine Or.inl ⟨i, vs[i], rfl, hi, List.getElem?_eq_getElem hi, ?_⟩
  unfold varF
  rw [List.find?_eq_some_iff_getElem]
  refine ⟨hp, i, hi, rfl, fun j hj => ?_⟩
  have := hn j hj
  simp only [Bool.not_eq_true] at this
  simp [this]
theorem post_rowK {P : Program} {fn : Func} {R : Ending → World → Prop} {a : Act} {w : World} {p : Tmp} {ty : TypeId} {g : Nat} {t : TypeId} {cs : Array Value} {fr : Nat × Nat} {d : TypeDesc} (h : fn.results = #[.cell p ty])
  (hp : a.tmps.getD p undef = .pointer (some ⟨g, 0, none⟩)) (hg : w.heap[g]? = some (.cells cs t fr)) (hu : P.underlying ty = some d) (hd : (match d with | .struct _ | .array _ _ => true | _ => false) = true) (hi : (P.info? ty).map (·.size) = some cs.size)
  (hdf : a.defers = []) (hR : R (.returned (.agg cs)) w) : bodyPost P fn R .ret a w := bodyPost_ret (results_cell_row h a.tmps w g t cs fr d hp hg hu hd hi) hdf hR
structure CkV (W : World) (C : Nat) (A : Option Addr) (cap : Nat) (vs : List VarS) : Prop where
 lt : C < W.heap.size
 c0 : W.cell? ⟨C, 0, none⟩ = some (.slice A vs.length cap)
 row : RowV W A vs cap
theorem CkV.below {W W' : World} {C : Nat} {A : Option Addr} {cap : Nat} {vs : List VarS} (h : CkV W C A cap vs) (hb : Below W.heap.size W W') : CkV W' C A cap vs :=
 ⟨Nat.lt_of_lt_of_le h.lt hb.size, (hb.cell (p := ⟨C, 0, none⟩) h.lt).trans h.c0, h.row.below hb⟩
def varZs : Array Value := #[.string ⟨#[]⟩, .int .i64 0, .int .i64 0, .bool false, .int .i64 0, .int .i64 0, .int .i64 0, .int .i64 0]
theorem cf_var1 (args : Array Value) (w : World) : Sem.run Tryd.prog (callFunc 63 args) w = .ok (.enter 63 args) w := by
 go_simp

theorem var1_any (v : VarS) (nm : ByteArray) (c : Nat) (w : World) (hc : w.cell? ⟨c, 0, none⟩ = some (.string nm)) (hl : c < w.heap.size) :
  Calls Tryd.prog 63 #[.agg v.cells.toArray, .pointer (some ⟨c, 0, none⟩)] w fun e w' => e = .returned (.bool (sameV nm v)) ∧ Below w.heap.size w w' := by
 show Calls Tryd.prog 63 #[.agg #[.string v.name, .int .i64 v.type, .int .i64 v.sect, .bool v.arr, .int .i64 v.lo, .int .i64 v.hi, .int .i64 v.init, .int .i64 v.line], .pointer (some ⟨c, 0, none⟩)] w _
 go_enter Tryd.func63, Tryd.ntmps63
 go_wp2
 go_ret
 exact ⟨rfl, by exact belowBy⟩

set_option maxRecDepth 100000 in
theorem kvar_any (vs : List VarS) (nm : ByteArray) (ln : Int) (C : Nat) (A : Option Addr) (cap : Nat) (w : World) (h : CkV w C A cap vs) :
  Calls Tryd.prog 42 #[.pointer (some ⟨C, 0, none⟩), .string nm, .int .i64 ln] w fun e w' => Res ((varF vs nm).map fun v => .agg v.cells.toArray) e ∧ Below w.heap.size w w' := by
 have HK := Lib.hid h
 have hvr : ∀ v, varF vs nm = some v → (Value.agg v.cells.toArray) = .agg v.cells.toArray := fun _ _ => rfl
 obtain ⟨n, hn⟩ : ∃ n, vs.length = n := ⟨_, rfl⟩
 have HN := Lib.hid hn
 obtain ⟨r, hr⟩ : ∃ r, varF vs nm = r := ⟨_, rfl⟩
 rw [hr]
 have HR := Lib.hid hr
 clear h hn hr hvr
 go_enter Tryd.func42, Tryd.ntmps42
 go_upto_region 1 with (fail)
 refine wp_name fun W hW => ?_
 obtain ⟨B, hB⟩ : ∃ B, B = w.heap.size := ⟨_, rfl⟩
 have hB1 : B + 1 = w.heap.size + 1 := by omega
 have n0 : W.cell? ⟨B, 0, none⟩ = some (.string nm) := by rw [hW.out, hB]; go_simp
 have hz : W.heap[B + 1]? = some (.cells varZs 47) := by
  rw [hW.out, hB]
  have := heap_alloc_new (w.alloc (.cells #[.string nm] 9)) (.cells varZs 47)
  rw [World.size_alloc] at this
  exact this
 have hbel : Below w.heap.size w W := by rw [hW.out]; exact belowBy
 have lB : B + 1 < W.heap.size := (Array.getElem?_eq_some_iff.1 hz).1
 have lB0 : B < W.heap.size := by omega
 have hwB : w.heap.size ≤ B + 1 := by omega
 rw [show w.heap.size + 1 = B + 1 by omega, ← hB]
 have HZ := Lib.hid hz
 have HB := Lib.hid hbel
 have HKW := Lib.hid (HK.out.below hbel)
 have k0 : W.cell? ⟨C, 0, none⟩ = some (.slice A n cap) := by rw [← HN.out]; exact HKW.out.c0
 have lC := HKW.out.lt
 have HIX : Hid (Calls Tryd.prog 53 #[.slice A n cap, .func (.func 63) #[] #[.pointer (some ⟨B, 0, none⟩)]] W fun e w' => e = .returned (.int .i64 (ixO (vs.findIdx? (sameV nm)))) ∧ Below W.heap.size W w') := Lib.hid (by
  rw [← HN.out]
  exact kix_var _ _ (sameV nm) vs A cap W HKW.out.row cf_var1 (fun v w' hb => var1_any v nm B w' ((hb.cell (p := ⟨B, 0, none⟩) lB0).trans n0) (Nat.lt_of_lt_of_le lB0 hb.size)))
 clear hW hz hbel hB hB1 n0 HK
 go_wp2_with fail
 refine HIX.out.mono ?_
 rintro e w1 ⟨rfl, hb1⟩
 have HB1 := Lib.hid (HB.out.trans (hb1.mono HB.out.size))
 have HK1 := Lib.hid (HKW.out.below hb1)
 have HZ1 : Hid (w1.heap[B + 1]? = some (.cells varZs 47)) := Lib.hid ((hb1.block (B + 1) lB).trans HZ.out)
 clear hb1 k0 lC HIX HKW HB HZ lB lB0
 rcases varF_ix vs nm with ⟨i, v, hi, hil, hv, hf⟩ | ⟨hi, hf⟩
 ·rw [hi]
  have hr2 : r = some v := by rw [← HR.out, hf]
  subst hr2
  rw [HN.out] at hil
  obtain ⟨b, off, v', hA, hbl, hv', hrg⟩ := RowV.at8 HK1.out.row (i := i) (by rw [HN.out]; exact hil)
  obtain rfl : v = v' := by rw [hv] at hv'; exact Option.some.inj hv'
  subst hA
  have k0 : w1.cell? ⟨C, 0, none⟩ = some (.slice (some ⟨b, off, none⟩) n cap) := by rw [← HN.out]; exact HK1.out.c0
  have lC := HK1.out.lt
  have hc1 : n ≤ cap := by rw [← HN.out]; exact HK1.out.row.1
  have hc2 := HK1.out.row.2.1
  have hi0 : (0 : Int) ≤ (i : Int) ∧ (i : Int) < (n : Int) := by omega
  have HRG := Lib.hid hrg
  clear hi hv hf hv' hrg HR
  simp only [ixO]
  go_wp2_with fail
  refine (need_any true 9 ln _ (by decide)).mono ?_
  rintro e w2 ⟨rfl, rfl⟩
  go_wp2_with (first
   | refine wpList_load_mid rfl 47 _ rfl b (off + i * 8) rfl v.cells _ HRG.out Tryd.underlying47 rfl var_size8 ?_
   | refine wpList_store_row rfl 47 _ _ rfl (B + 1) v.cells.toArray rfl rfl 47 _ HZ1.out var_size8 rfl (var_one8 v) ?_)
  exact post_rowK Tryd.results42 rfl (setRow_heap _ _ _ _ _ _ HZ1.out) Tryd.underlying47 rfl var_size8 rfl ⟨rfl, below_setRow HB1.out hwB _⟩
 ·rw [hi]
  have hr2 : r = none := by rw [← HR.out, hf]
  subst hr2
  clear hi hf HR
  simp only [ixO]
  go_wp2_with fail
  refine (need_any false 9 ln _ (by decide)).mono ?_
  rintro e w2 ⟨he, rfl⟩
  obtain ⟨n9, l9, rfl, h9⟩ := he
  exact post_panic rfl ⟨⟨n9, l9, rfl, h9⟩, HB1.out⟩

end Go.Proofs.YtahjijdadifkaaaDoor
