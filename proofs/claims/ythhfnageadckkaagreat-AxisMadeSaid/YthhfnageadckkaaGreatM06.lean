/- Merged: Contracts of layer 10: a row, copied. Contracts of layer 10 on windows that lie in a world. Contracts of layer 10's statements: awake, place. Contracts of layer 10's statements: are two windows the same? Layer 10, plain: what a push does to sums. No program in sight. Layer 10, plain: how the sum of the last places changes. No program in sight. -/
import Derived.Test.YthhfnageadckkaaGreatM05
set_option linter.unusedVariables false
set_option linter.unusedSimpArgs false
namespace Go.Proofs.YthhfnageadckkaaGreat
open Go.RowKit
attribute [local go_sem] ite_max ite_min vite_max vite_min ext_cell ext_frozen

def rowsL (zs : List Int) (n : Nat) : List Value := (List.range n).map fun i => .int .i64 (zs[i]?.getD 0)
theorem rowsL_len (zs : List Int) (n : Nat) : (rowsL zs n).length = n := by simp [rowsL]
theorem rowsL_get (zs : List Int) (n i : Nat) (h : i < n) : (rowsL zs n)[i]? = some (.int .i64 (zs[i]?.getD 0)) := by
 simp [rowsL, h]

theorem sm_clone_at (zs : List Int) (b off n cap : Nat) (w : World) (hn : n ≤ 1000) (hc : ∀ i, i < n → w.cell? ⟨b, off + i, none⟩ = some (.int .i64 (zs[i]?.getD 0))) :
  Calls Tryz.prog 95 #[.slice (some ⟨b, off, none⟩) n cap] w fun e w' => ∃ (g k : Nat) (cur : List Value), e = .returned (.slice (some ⟨g, 0, none⟩) n k) ∧ w.heap.size ≤ g ∧ Hid (w'.heap[g]? = some (.cells cur.toArray 2)) ∧ n ≤ k ∧ k ≤ 9223372036854775807 ∧ cur.length = k ∧ Hid (cur.take n = rowsL zs n) ∧ Below w.heap.size w w' := by
 have hinf : (Tryz.prog.info? 2).map (fun i => (i.zero, i.size, i.bytes)) = some (some (.int .i64 0), 1, 8) := by kernel_rfl
 obtain ⟨i, hi, hz, hs, hb⟩ := info_parts hinf
 refine (Tryz.slices_Clone i (.int .i64 0) 1 8 hi hz hs hb rfl (by omega) ?_ b off n cap (rowsL zs n) w (by rw [rowsL_len]; omega) ?_ ?_ ?_ ?_).mono ?_
 ·intro w
  kernel_rfl
 ·have : maxLen = 9223372036854775807 := rfl
  omega
 ·omega
 ·intro j u hj
  have hjn : j < n := by
   have := (List.getElem?_eq_some_iff.1 hj).1
   rwa [rowsL_len] at this
  rw [rowsL_get zs n j hjn] at hj
  rw [← Option.some.inj hj]
  exact hc j hjn
 ·intro u hu
  simp only [rowsL, List.mem_map] at hu
  obtain ⟨i, _, rfl⟩ := hu
  rfl
 ·rintro e w' ⟨v', he, hown, hne, hbel⟩
  rcases hown.2 with ⟨h0, _⟩ | ⟨g, k, cur, hv, hg, hgc, hnk, hkm, hsz, ht⟩
  ·exact absurd h0 hne
  ·have : maxLen = 9223372036854775807 := rfl
   refine ⟨g, k, cur.toList, by rw [he, hv], hg, Lib.hid hgc, hnk, by omega, by simpa using hsz, Lib.hid (by simpa using ht), hbel⟩

theorem rowsL_cons (z : Int) (zs : List Int) (n : Nat) : rowsL (z :: zs) (n + 1) = .int .i64 z :: rowsL zs n := by
 simp [rowsL, List.range_succ_eq_map, List.map_map, Function.comp_def]
theorem push_row (cur : List Value) (zs : List Int) (n : Nat) (pos : Int) (h1 : 1 ≤ n) (hl : n ≤ cur.length) : ((splice cur 1 (rowsL zs (n - 1))).set 0 (.int .i64 pos)).take n = rowsL (pos :: zs) n := by
 obtain ⟨m, rfl⟩ : ∃ m, n = m + 1 := ⟨n - 1, by omega⟩
 rw [rowsL_cons, Nat.add_sub_cancel]
 cases cur with
 | nil => simp at hl
 | cons c t =>
  have hlen := rowsL_len zs m
  simp [splice, List.take_append, hlen]
theorem push_len (cur : List Value) (zs : List Int) (n : Nat) (pos : Int) (h1 : 1 ≤ n) (hl : n ≤ cur.length) : ((splice cur 1 (rowsL zs (n - 1))).set 0 (.int .i64 pos)).length = cur.length := by
 simp [splice, rowsL_len]
 omega

def Win (B : Nat) (zs : List Int) (n : Nat) (v : Value) (w : World) : Prop :=
 ∃ (g k : Nat) (cur : List Value), v = .agg #[.slice (some ⟨g, 0, none⟩) n k] ∧ B ≤ g ∧ Hid (w.heap[g]? = some (.cells cur.toArray 2)) ∧ n ≤ k ∧ k ≤ 9223372036854775807 ∧ cur.length = k ∧ Hid (cur.take n = rowsL zs n)

set_option maxRecDepth 100000 in
set_option maxHeartbeats 2000000 in
theorem sm_push_at (zs : List Int) (b off n cap : Nat) (pos : Int) (w : World) (hn : n ≤ cap) (hcap : cap ≤ 9223372036854775807) (hb : b < w.heap.size) (hc : ∀ i, i < n → w.cell? ⟨b, off + i, none⟩ = some (.int .i64 (zs[i]?.getD 0))) (hr : rightW zs n = true) (hp : plB pos = true) :
  Calls Tryz.prog 72 #[.agg #[.slice (some ⟨b, off, none⟩) n cap], .int .i64 pos] w fun e w' => ∃ v, e = .returned v ∧ Win w.heap.size (pos :: zs) n v w' ∧ Below w.heap.size w w' := by
 have hy := rightW_yes hr
 have hnb : 1 ≤ n ∧ n ≤ 16 := ⟨hy.1, hy.2.1⟩
 have HC := Lib.hid hc
 have HR := Lib.hid hr
 have HP := Lib.hid hp
 clear hc hr hp hy
 go_enter Tryz.func72, Tryz.ntmps72
 go_wp2_with fail
 refine (sm_clone_at zs b off n cap _ (by omega) (fun i hi => ?_)).mono ?_
 ·have := HC.out i hi
  go_simp
 rintro e w1 ⟨g, k, cur, rfl, hg, hgc, hnk, hkm, hck, hct, hb1⟩
 have hg2 : w.heap.size + 1 + 1 ≤ g := by simpa using hg
 have hgl : g < w1.heap.size := (Array.getElem?_eq_some_iff.1 hgc.out).1
 obtain ⟨hb1c, hb1f⟩ := bcell hb1
 have hb1z := hb1.size
 have hb1c0 := fun o => hb1c (w.heap.size) o sideBy
 have hb1f0 := fun o => hb1f (w.heap.size) o sideBy
 have hb1l0 := below_lt (b := w.heap.size) hb1 sideBy
 have hb1c1 := fun o => hb1c (w.heap.size + 1) o sideBy
 have hb1f1 := fun o => hb1f (w.heap.size + 1) o sideBy
 have hb1l1 := below_lt (b := w.heap.size + 1) hb1 sideBy
 have hb1c2 := fun o => hb1c (b) o sideBy
 have hb1f2 := fun o => hb1f (b) o sideBy
 have hb1l2 := below_lt (b := b) hb1 sideBy
 have hB1 : Below w.heap.size w w1 := by exact belowBy
 go_wp2_with fail
 refine (sm_right_at zs b off n cap true _ hn hcap (by omega) (fun i hi => ?_) HR.out).mono ?_
 ·rw [hB1.cell hb]
  exact HC.out i hi
 rintro e w2 ⟨rfl, hb2⟩
 obtain ⟨hb2c, hb2f⟩ := bcell hb2
 have hb2z := hb2.size
 have hb2c0 := fun o => hb2c (w.heap.size) o sideBy
 have hb2f0 := fun o => hb2f (w.heap.size) o sideBy
 have hb2l0 := below_lt (b := w.heap.size) hb2 sideBy
 have hb2c1 := fun o => hb2c (w.heap.size + 1) o sideBy
 have hb2f1 := fun o => hb2f (w.heap.size + 1) o sideBy
 have hb2l1 := below_lt (b := w.heap.size + 1) hb2 sideBy
 have hb2c2 := fun o => hb2c (b) o sideBy
 have hb2f2 := fun o => hb2f (b) o sideBy
 have hb2l2 := below_lt (b := b) hb2 sideBy
 have hb2c3 := fun o => hb2c (g) o sideBy
 have hb2f3 := fun o => hb2f (g) o sideBy
 have hb2l3 := below_lt (b := g) hb2 sideBy
 have hB2 : Below w.heap.size w w2 := by exact belowBy
 go_wp2_with fail
 refine (sm_place_any pos _).mono ?_
 rw [HP.out]
 rintro e w3 ⟨rfl, rfl⟩
 have HG2 : Hid (w2.heap[g]? = some (.cells cur.toArray 2)) := Lib.hid (by rw [hb2.block g hgl]; exact hgc.out)
 go_wp2_with fail
 have hsrc : ∀ j v, (rowsL zs (n - 1))[j]? = some v → w2.drew.cell? ((⟨b, off, none⟩ : Addr).add j) = some v := by
  intro j v hj
  have hjn : j < n - 1 := by
   have := (List.getElem?_eq_some_iff.1 hj).1
   rwa [rowsL_len] at this
  rw [rowsL_get zs _ j hjn] at hj
  rw [← Option.some.inj hj]
  have h1 := HC.out j (by omega)
  rw [← hB2.cell (p := ⟨b, off + j, none⟩) hb] at h1
  have had : (⟨b, off, none⟩ : Addr).add j = ⟨b, off + j, none⟩ := by cases j <;> simp [Addr.add]
  rw [had]
  exact h1
 have hone : ∀ v ∈ rowsL zs (n - 1), v.oneCell' = true := by
  intro v hv
  simp only [rowsL, List.mem_map] at hv
  obtain ⟨i, _, rfl⟩ := hv
  rfl
 have HSRC := Lib.hid hsrc
 have HONE := Lib.hid hone
 clear hsrc hone
 have hnI : (1 : Int) ≤ (n : Int) ∧ (n : Int) ≤ 16 := by omega
 have hkI : (n : Int) ≤ (k : Int) ∧ (k : Int) ≤ 9223372036854775807 := by omega
 have hlen : Nat.min n (n - 1) = n - 1 := Nat.min_eq_right (by omega)
 have HLEN : Hid ((rowsL zs (n - 1)).length = Nat.min n (n - 1)) := Lib.hid (by rw [rowsL_len, hlen])
 clear hlen
 by_cases hk1 : k = 1
 ·subst hk1
  obtain rfl : n = 1 := by omega
  have HFIT : Hid (1 + (rowsL zs (1 - 1)).length ≤ cur.length) := Lib.hid (by rw [rowsL_len]; omega)
  have HPOS : Hid (0 < (rowsL zs (1 - 1)).length → some (⟨g, 0, none⟩ : Addr) = some ⟨g, 1, none⟩ ∧ ∃ ad, some (⟨b, off, none⟩ : Addr) = some ad ∧ ∀ j v, (rowsL zs (1 - 1))[j]? = some v → w2.drew.cell? (ad.add j) = some v) := Lib.hid (fun h => by rw [rowsL_len] at h; omega)
  go_region_law ((refine step_copy_splice (by rfl) (.tmp 20) (.tmp 22) 26 26 (by rfl) 2 Tryz.underlying26 (by kernel_rfl) (some ⟨g, 0, none⟩) (some ⟨b, off, none⟩) 0 0 1 cap (by go_simp) (by go_simp) g 1 cur 2 HG2.out (rowsL zs (1 - 1)) HLEN.out HPOS.out HFIT.out HONE.out (w.heap.size + 1 + 1) w2 (Below.refl _ _).drew (by omega) ?_; intro w4 hg4 hb4))
  obtain ⟨x, hx⟩ : ∃ x, (splice cur 1 (rowsL zs (1 - 1)))[0]? = some x := by
   rw [List.getElem?_eq_getElem (by simp [splice, rowsL_len]; omega)]
   exact ⟨_, rfl⟩
  have h0c : w4.cell? ⟨g, 0, none⟩ = some x := heap_cell 0 x hg4.out (by rw [List.getElem?_toArray]; exact hx)
  have h0f : w4.frozen? ⟨g, 0, none⟩ = false := heap_free 0 hg4.out
  have hgl4 : g < w4.heap.size := (Array.getElem?_eq_some_iff.1 hg4.out).1
  clear hx
  have hb4c : ∀ o, w4.cell? ⟨w.heap.size + 1, o, none⟩ = w2.cell? ⟨w.heap.size + 1, o, none⟩ := fun o => hb4.cell (p := ⟨w.heap.size + 1, o, none⟩) (by show w.heap.size + 1 < _; omega)
  have hb4f : ∀ o, w4.frozen? ⟨w.heap.size + 1, o, none⟩ = w2.frozen? ⟨w.heap.size + 1, o, none⟩ := fun o => hb4.frozen (p := ⟨w.heap.size + 1, o, none⟩) (by show w.heap.size + 1 < _; omega)
  have hb4l : w.heap.size + 1 < w4.heap.size := by omega
  have hB4 : Below w.heap.size w w4 := hB2.trans (hb4.mono (by omega))
  have hgne : ¬ g = w.heap.size + 1 := by omega
  have hgne2 : ¬ w.heap.size + 1 = g := by omega
  go_wp2_with fail
  exact bodyPost_ret (v := .agg #[.slice (some ⟨g, 0, none⟩) 1 1]) (by simp [results, Tryz.results72, go_sem, hb1c1, hb2c1, hb4c, hgne, hgne2]) rfl ⟨_, rfl, ⟨g, 1, (splice cur 1 (rowsL zs (1 - 1))).set 0 (.int .i64 pos), rfl, by omega, Lib.hid (by rw [Below.heap_setCell _ _ _ _ (by show g ≠ w.heap.size + 1; omega), heap_setCell_same _ _ _ _ _ _ hg4.out, List.setIfInBounds_toArray]), hnk, hkm, by rw [push_len cur zs 1 pos hnb.1 (by omega)]; exact hck, Lib.hid (push_row cur zs 1 pos hnb.1 (by omega))⟩, (hB4.setCell (by show w.heap.size ≤ g; omega) _).setCell (by show w.heap.size ≤ w.heap.size + 1; omega) _⟩
 ·have HFIT : Hid (1 + (rowsL zs (n - 1)).length ≤ cur.length) := Lib.hid (by rw [rowsL_len]; omega)
  have HPOS : Hid (0 < (rowsL zs (n - 1)).length → some (⟨g, 1, none⟩ : Addr) = some ⟨g, 1, none⟩ ∧ ∃ ad, some (⟨b, off, none⟩ : Addr) = some ad ∧ ∀ j v, (rowsL zs (n - 1))[j]? = some v → w2.drew.cell? (ad.add j) = some v) := Lib.hid (fun _ => ⟨rfl, _, rfl, HSRC.out⟩)
  go_region_law ((refine step_copy_splice (by rfl) (.tmp 20) (.tmp 22) 26 26 (by rfl) 2 Tryz.underlying26 (by kernel_rfl) (some ⟨g, 1, none⟩) (some ⟨b, off, none⟩) (n - 1) (k - 1) n cap (by go_simp) (by go_simp) g 1 cur 2 HG2.out (rowsL zs (n - 1)) HLEN.out HPOS.out HFIT.out HONE.out (w.heap.size + 1 + 1) w2 (Below.refl _ _).drew (by omega) ?_; intro w4 hg4 hb4))
  obtain ⟨x, hx⟩ : ∃ x, (splice cur 1 (rowsL zs (n - 1)))[0]? = some x := by
   rw [List.getElem?_eq_getElem (by simp [splice, rowsL_len]; omega)]
   exact ⟨_, rfl⟩
  have h0c : w4.cell? ⟨g, 0, none⟩ = some x := heap_cell 0 x hg4.out (by rw [List.getElem?_toArray]; exact hx)
  have h0f : w4.frozen? ⟨g, 0, none⟩ = false := heap_free 0 hg4.out
  have hgl4 : g < w4.heap.size := (Array.getElem?_eq_some_iff.1 hg4.out).1
  clear hx
  have hb4c : ∀ o, w4.cell? ⟨w.heap.size + 1, o, none⟩ = w2.cell? ⟨w.heap.size + 1, o, none⟩ := fun o => hb4.cell (p := ⟨w.heap.size + 1, o, none⟩) (by show w.heap.size + 1 < _; omega)
  have hb4f : ∀ o, w4.frozen? ⟨w.heap.size + 1, o, none⟩ = w2.frozen? ⟨w.heap.size + 1, o, none⟩ := fun o => hb4.frozen (p := ⟨w.heap.size + 1, o, none⟩) (by show w.heap.size + 1 < _; omega)
  have hb4l : w.heap.size + 1 < w4.heap.size := by omega
  have hB4 : Below w.heap.size w w4 := hB2.trans (hb4.mono (by omega))
  have hgne : ¬ g = w.heap.size + 1 := by omega
  have hgne2 : ¬ w.heap.size + 1 = g := by omega
  go_wp2_with fail
  exact bodyPost_ret (v := .agg #[.slice (some ⟨g, 0, none⟩) n k]) (by simp [results, Tryz.results72, go_sem, hb1c1, hb2c1, hb4c, hgne, hgne2]) rfl ⟨_, rfl, ⟨g, k, (splice cur 1 (rowsL zs (n - 1))).set 0 (.int .i64 pos), rfl, by omega, Lib.hid (by rw [Below.heap_setCell _ _ _ _ (by show g ≠ w.heap.size + 1; omega), heap_setCell_same _ _ _ _ _ _ hg4.out, List.setIfInBounds_toArray]), hnk, hkm, by rw [push_len cur zs n pos hnb.1 (by omega)]; exact hck, Lib.hid (push_row cur zs n pos hnb.1 (by omega))⟩, (hB4.setCell (by show w.heap.size ≤ g; omega) _).setCell (by show w.heap.size ≤ w.heap.size + 1; omega) _⟩


structure OnW (w : World) (zs : List Int) (n g k : Nat) : Prop where
 nk : n ≤ k
 km : k ≤ 9223372036854775807
 gl : g < w.heap.size
 cs : ∀ i, i < n → w.cell? ⟨g, i, none⟩ = some (.int .i64 (zs[i]?.getD 0))
theorem OnW.below {w w' : World} {zs : List Int} {n g k : Nat} (h : OnW w zs n g k) (hb : Below w.heap.size w w') : OnW w' zs n g k :=
 ⟨h.nk, h.km, Nat.lt_of_lt_of_le h.gl hb.size, fun i hi => by rw [hb.cell (p := ⟨g, i, none⟩) h.gl]; exact h.cs i hi⟩
theorem OnW.of_win {B n : Nat} {zs : List Int} {v : Value} {w : World} (h : Win B zs n v w) : ∃ g k, v = .agg #[.slice (some ⟨g, 0, none⟩) n k] ∧ B ≤ g ∧ OnW w zs n g k := by
 obtain ⟨g, k, cur, rfl, hB, hg, hnk, hk, hck, ht⟩ := h
 refine ⟨g, k, rfl, hB, hnk, hk, (Array.getElem?_eq_some_iff.1 hg.out).1, fun i hi => heap_cell i _ hg.out ?_⟩
 have h1 := rowsL_get zs n i hi
 rw [← ht.out, List.getElem?_take, if_pos hi] at h1
 rw [List.getElem?_toArray]
 exact h1
theorem curK_get (pos : Int) (m i : Nat) (h : i < m) : (curK pos m m)[i]? = some (.int .i64 pos) := by
 simp [curK, h]

theorem sm_new_w (pos : Int) (m : Nat) (w : World) (hm : 1 ≤ m ∧ m ≤ 16) (hp : plB pos = true) : Calls Tryz.prog 38 #[.int .i64 (m : Int), .int .i64 pos] w fun e w' => ∃ g, e = .returned (.tuple #[.agg #[.slice (some ⟨g, 0, none⟩) m m], .int .i64 0]) ∧ w.heap.size ≤ g ∧ Below w.heap.size w w' ∧ OnW w' (List.replicate m pos) m g m := by
 refine (sm_new_at pos m w hm hp).mono ?_
 rintro e w' ⟨g, rfl, hB, hb, hc⟩
 refine ⟨g, rfl, hB, hb, Nat.le_refl _, by omega, (Array.getElem?_eq_some_iff.1 hc.out).1, fun i hi => heap_cell i _ hc.out ?_⟩
 rw [List.getElem?_toArray, curK_get pos m i hi, List.getElem?_replicate, if_pos hi]
 rfl


theorem OnW.store {w : World} {zs : List Int} {n g k : Nat} (h : OnW w zs n g k) {a : Addr} (hne : g ≠ a.block) (u : Value) : OnW (w.setCell a u) zs n g k :=
 ⟨h.nk, h.km, Nat.lt_of_lt_of_le h.gl ((Below.refl 0 w).setCell (p := a) (Nat.zero_le _) u).size, fun i hi => by rw [World.cell?_of_block (w := w) (Below.heap_setCell w a u g hne)]; exact h.cs i hi⟩






end Go.Proofs.YthhfnageadckkaaGreat

namespace Go.Proofs.YthhfnageadckkaaGreat

theorem rightW_push (zs : List Int) (n : Nat) (pos : Int) (hr : rightW zs n = true) (hp : plB pos = true) : rightW (pos :: zs) n = true := by
 have hy := rightW_yes hr
 refine rightW_mk ⟨hy.1, hy.2.1⟩ fun i hi => ?_
 cases i with
 | zero => simpa using plB_yes hp
 | succ i => simpa using hy.2.2 i (by omega)
theorem rightW_same (m : Nat) (pos : Int) (hm : 1 ≤ m ∧ m ≤ 16) (hp : plB pos = true) : rightW (List.replicate m pos) m = true := by
 refine rightW_mk hm fun i hi => ?_
 rw [List.getElem?_replicate, if_pos hi]
 exact plB_yes hp
def oneK (zs : List Int) (n : Nat) (pos : Int) : Prop := ∀ i, i < n → zs[i]?.getD 0 = pos
theorem oneK_le {zs : List Int} {n m : Nat} {pos : Int} (h : oneK zs n pos) (hm : m ≤ n) : oneK zs m pos := fun i hi => h i (by omega)
theorem sumK_one {zs : List Int} {n : Nat} {pos : Int} (h : oneK zs n pos) : sumK zs n = (n : Int) * pos := by
 induction n with
 | zero => simp [sumK]
 | succ n ih =>
  have h1 : sumK zs (n + 1) = sumK zs n + zs[n]?.getD 0 := rfl
  rw [h1, ih (oneK_le h (by omega)), h n (by omega)]
  have h2 : ((n + 1 : Nat) : Int) = (n : Int) + 1 := by omega
  rw [h2, Int.add_mul, Int.one_mul]
theorem rest_one {zs : List Int} {n : Nat} {pos : Int} (hr : rightW zs n = true) (h : oneK zs n pos) : restW zs n = true := by
 unfold restW
 rw [hr, anyK_of _ _ _ (fun i hi => by
  have := rightW_yes hr
  rw [h i hi, h 0 (by omega)]
  simp)]
 rfl

theorem OnW.congr {w : World} {zs ys : List Int} {n g k : Nat} (h : OnW w zs n g k) (he : ∀ i, i < n → ys[i]?.getD 0 = zs[i]?.getD 0) : OnW w ys n g k :=
 ⟨h.nk, h.km, h.gl, fun i hi => by rw [he i hi]; exact h.cs i hi⟩
theorem rep_get (n : Nat) (f : Int) (i : Nat) (h : i < n) : (List.replicate n f)[i]?.getD 0 = f := by
 rw [List.getElem?_replicate, if_pos h]
 rfl
def dK (zs : List Int) (i : Nat) : Int := zs[i]?.getD 0 - zs[i + 1]?.getD 0
theorem dK_zero (zs : List Int) (d : Int) : dK ((zs[0]?.getD 0 + d) :: zs) 0 = d := by
 simp [dK]
 omega
theorem dK_succ (zs : List Int) (p : Int) (i : Nat) : dK (p :: zs) (i + 1) = dK zs i := by
 simp [dK]
structure Hist (zs : List Int) (m : Nat) (most gain : Int) : Prop where
 d : ∀ i, i ≤ m + 1 → -most ≤ dK zs i ∧ dK zs i ≤ most
 g : ∀ i, i ≤ m → -gain ≤ dK zs i - dK zs (i + 1) ∧ dK zs i - dK zs (i + 1) ≤ gain
theorem Hist.push {zs : List Int} {m : Nat} {most gain : Int} (h : Hist zs m most gain) (d : Int) :
  Hist ((zs[0]?.getD 0 + d) :: zs) m (max (max most d) (-d)) (max (max gain (d - dK zs 0)) (dK zs 0 - d)) := by
 refine ⟨fun i hi => ?_, fun i hi => ?_⟩
 ·cases i with
  | zero =>
   rw [dK_zero]
   omega
  | succ i =>
   rw [dK_succ]
   have := h.d i (by omega)
   omega
 ·cases i with
  | zero =>
   rw [dK_zero, dK_succ]
   omega
  | succ i =>
   rw [dK_succ, dK_succ]
   have := h.g i (by omega)
   omega

end Go.Proofs.YthhfnageadckkaaGreat
