/- Layer 20, the reference: a variable by its name, a pin by its name. -/
import Derived.Test.YtpgkebfdfhdliaaDoorTreeN0
import Derived.Test.YtpgkebfdfhdliaaDoorStdN
import Derived.Laws.CopyOwn
import Derived.Deep.WholeRow
namespace Go.Proofs.YtpgkebfdfhdliaaDoor
open Go.RowKit
set_option linter.unusedVariables false
set_option linter.unusedSimpArgs false
attribute [local go_sem] ite_max ite_min vite_max vite_min ext_cell ext_frozen extS_cell extS_frozen

def sameN (nm : ByteArray) (v : VarS) : Bool := v.name.toList == nm.toList
def findV (vs : List VarS) (nm : ByteArray) : Option VarS := vs.find? (sameN nm)
def varZ : Value := .agg #[.string ⟨#[]⟩, .int .i64 0, .int .i64 0, .bool false, .int .i64 0, .int .i64 0, .int .i64 0, .int .i64 0]
def findR : Option VarS → Value
  | some v => .tuple #[.agg v.cells.toArray, .bool true]
  | none => .tuple #[varZ, .bool false]
theorem findV_some {vs : List VarS} {nm : ByteArray} {i : Nat} {v : VarS} (hv : vs[i]? = some v) (hs : sameN nm v = true) (hn : ∀ j x, j < i → vs[j]? = some x → sameN nm x = false) : findV vs nm = some v := by
  unfold findV
  rw [List.find?_eq_some_iff_getElem]
  obtain ⟨hi, hv'⟩ := List.getElem?_eq_some_iff.1 hv
  refine ⟨hs, i, hi, hv', fun j hj => ?_⟩
  have := hn j vs[j] hj (List.getElem?_eq_getElem (by omega))
  simp [this]
theorem findV_none {vs : List VarS} {nm : ByteArray} (hn : ∀ j x, j < vs.length → vs[j]? = some x → sameN nm x = false) : findV vs nm = none := by
  unfold findV
  rw [List.find?_eq_none]
  intro x hx
  obtain ⟨j, hj⟩ := List.getElem?_of_mem hx
  have := hn j x (List.getElem?_eq_some_iff.1 hj).1 hj
  simp [this]

theorem post_row_tmp {P : Program} {fn : Func} {R : Ending → World → Prop} {a : Act} {w : World} {p q : Tmp} {ty : TypeId} {g : Nat} {t : TypeId} {cs : Array Value} {fr : Nat × Nat} {d : TypeDesc} (h : fn.results = #[.cell p ty, .tmp q])
    (hp : a.tmps.getD p undef = .pointer (some ⟨g, 0, none⟩)) (hg : w.heap[g]? = some (.cells cs t fr)) (hu : P.underlying ty = some d) (hd : (match d with | .struct _ | .array _ _ => true | _ => false) = true) (hi : (P.info? ty).map (·.size) = some cs.size)
    (hdf : a.defers = []) (hR : R (.returned (.tuple #[.agg cs, a.tmps.getD q undef])) w) : bodyPost P fn R .ret a w := bodyPost_ret (by
  have hp' : a.tmps[p]?.getD undef = .pointer (some ⟨g, 0, none⟩) := by simpa using hp
  simp [results, h, hp', asAddr, run_loadVar_row w g t ty cs fr d hg hu hd hi]) hdf hR
def varZs : Array Value := #[.string ⟨#[]⟩, .int .i64 0, .int .i64 0, .bool false, .int .i64 0, .int .i64 0, .int .i64 0, .int .i64 0]
theorem varZs_one : varZs.all (·.oneCell') = true := by simp [varZs, Value.oneCell']

set_option maxRecDepth 100000 in
set_option maxHeartbeats 4000000 in
theorem find20_any (vs : List VarS) (nm : ByteArray) (w : World) (A : Option Addr) (cap : Nat) (h : RowV w A vs cap) : Calls Tryd.prog 57 #[.slice A vs.length cap, .string nm] w fun e w' => e = .returned (findR (findV vs nm)) ∧ Below w.heap.size w w' := by
  have HR := Lib.hid h
  have hl := h.1
  have hc := h.2.1
  obtain ⟨n, hn⟩ : ∃ n, vs.length = n := ⟨_, rfl⟩
  obtain ⟨r, hr⟩ : ∃ r, findV vs nm = r := ⟨_, rfl⟩
  rw [hr]
  rw [hn] at hl ⊢
  have HN := Lib.hid hn
  have HRR := Lib.hid hr
  clear h hn hr
  go_enter Tryd.func57, Tryd.ntmps57
  go_upto_region 1 with (fail)
  refine wp_name fun W0 hW0 => ?_
  obtain ⟨B, hB⟩ : ∃ B, B = w.heap.size := ⟨_, rfl⟩
  have hh : W0.heap[B]? = some (.cells varZs 35) := by rw [hW0.out, hB]; exact heap_alloc_new _ _
  have hbel : Below w.heap.size w W0 := by rw [hW0.out]; (repeat' (first | (with_reducible exact Below.refl _ _) | (with_reducible assumption) | (with_reducible refine below_drewN ?_ _) | (with_reducible refine Below.drew ?_) | (with_reducible refine below_new ?_ (Nat.le_refl _) _) | (with_reducible refine Below.setCell ?_ ?_ _) | (with_reducible refine below_go ?_ (by assumption) (Nat.le_refl _)) | (simp; done) | (simp; omega) | omega))
  have HH : Hid (W0.heap[B]? = some (.cells varZs 35)) := Lib.hid hh
  have HB0 := Lib.hid hbel
  have hlB : B < W0.heap.size := (Array.getElem?_eq_some_iff.1 hh).1
  have hwB : w.heap.size ≤ B := by omega
  rw [← hB]
  clear hh hbel hW0 hB
  go_wp2_with fail
  go_loopw [6] (fun vi wr => ∃ (i : Nat), i ≤ n ∧ vi = .int .i64 i ∧ Hid (∀ j x, j < i → vs[j]? = some x → sameN nm x = false) ∧ Below W0.heap.size W0 wr) (fun vi _ => n - (intOf vi).toNat)
  case atStart => exact ⟨0, by omega, rfl, Lib.hid (fun j x hj => by omega), Below.refl _ _⟩
  case round =>
    obtain ⟨i, hi, rfl, HNO, hbr⟩ := hrel
    have HHr : Hid (wr.heap[B]? = some (.cells varZs 35)) := Lib.hid ((hbr.block B hlB).trans HH.out)
    have HBB := Lib.hid (HB0.out.trans (hbr.mono HB0.out.size))
    by_cases hlt : i < n
    · have hi0 : (0 : Int) ≤ (i : Int) ∧ (i : Int) < (n : Int) := by omega
      obtain ⟨b, off, v, rfl, hbl, hv, hrg⟩ := RowV.at8 (HR.out.below HBB.out) (i := i) (by rw [HN.out]; exact hlt)
      have HV := Lib.hid hv
      have HRG := Lib.hid hrg
      have c0 : wr.cell? ⟨b, off + i * 8, none⟩ = some (.string v.name) := hrg 0 _ rfl
      have HB := Lib.hid hbr
      clear hv hrg hbr
      cases hq : (v.name.toList == nm.toList)
      · have HQ := Lib.hid hq
        clear hq
        have hq := HQ.out
        go_wp2
        go_roundw
        case rel =>
          refine ⟨i + 1, by omega, by go_num, Lib.hid (fun j x hj hx => ?_), HB.out⟩
          rcases Nat.lt_succ_iff_lt_or_eq.1 hj with h | rfl
          · exact HNO.out j x h hx
          · rw [HV.out] at hx
            cases hx
            exact HQ.out
        case measure => simp [intOf]; omega
      · have hres : r = some v := by rw [← HRR.out]; exact findV_some HV.out hq HNO.out
        subst hres
        go_wp2_with (first
          | refine wpList_load_mid rfl 35 _ rfl b (off + i * 8) rfl v.cells _ HRG.out Tryd.underlying35 rfl var_size8 ?_
          | refine wpList_store_row rfl 35 _ _ rfl B v.cells.toArray rfl rfl 35 _ HHr.out var_size8 rfl (var_one8 v) ?_)
        refine post_row_tmp Tryd.results57 rfl (setRow_heap _ _ _ _ _ _ HHr.out) Tryd.underlying35 rfl var_size8 rfl ⟨rfl, below_setRow HBB.out hwB _⟩
    · obtain rfl : i = n := by omega
      have hres : r = none := by rw [← HRR.out]; exact findV_none (fun j x hj hx => HNO.out j x (by rw [HN.out] at hj; exact hj) hx)
      subst hres
      go_wp2_with (refine wpList_store_row rfl 35 _ _ rfl B varZs rfl rfl 35 _ HHr.out var_size8 rfl varZs_one ?_)
      refine post_row_tmp Tryd.results57 rfl (setRow_heap _ _ _ _ _ _ HHr.out) Tryd.underlying35 rfl var_size8 rfl ⟨rfl, below_setRow HBB.out hwB _⟩

/-- a pin is told, whatever it is -/
def PinR (e : Ending) : Prop := ∃ s t i b, e = .returned (.tuple #[.agg #[.string s, .int .i64 t, .bool i], .bool b])
theorem Rw.pinsK_at (r : Rw) : ∀ n k, k < n → ∃ s t b, (r.pinsK n)[k * 3]? = some (.string s) ∧ (r.pinsK n)[k * 3 + 1]? = some (.int .i64 t) ∧ (r.pinsK n)[k * 3 + 2]? = some (.bool b)
  | 0, k, h => by omega
  | n + 1, k, h => by
    have hl : ∀ m, (r.pinsK m).length = m * 3 := by
      intro m
      induction m with
      | zero => rfl
      | succ m ih => rw [Rw.pinsK, List.length_append, ih]; show m * 3 + 3 = _; omega
    rw [Rw.pinsK]
    by_cases hk : k < n
    · rw [List.getElem?_append_left (by rw [hl]; omega), List.getElem?_append_left (by rw [hl]; omega), List.getElem?_append_left (by rw [hl]; omega)]
      exact Rw.pinsK_at r n k hk
    · obtain rfl : k = n := by omega
      rw [List.getElem?_append_right (by rw [hl]; omega), List.getElem?_append_right (by rw [hl]; omega), List.getElem?_append_right (by rw [hl]; omega), hl]
      rw [show k * 3 - k * 3 = 0 by omega, show k * 3 + 1 - k * 3 = 1 by omega, show k * 3 + 2 - k * 3 = 2 by omega]
      exact ⟨_, _, _, rfl, rfl, rfl⟩
theorem rpins_at (kind : Int) (k : Nat) (h : k < rcount kind) : ∃ s t b, (rpinsOf kind)[k * 3]? = some (.string s) ∧ (rpinsOf kind)[k * 3 + 1]? = some (.int .i64 t) ∧ (rpinsOf kind)[k * 3 + 2]? = some (.bool b) := by
  unfold rcount at h
  unfold rpinsOf
  cases hf : rfind kind with
  | none => rw [hf] at h; simp at h
  | some r =>
    rw [hf] at h
    exact r.pinsK_at _ _ h

end Go.Proofs.YtpgkebfdfhdliaaDoor
