/- Merged: Is a string a name? Told exactly. Is a string a name? Told exactly: the walk. PRINTED by wip/tool/mkname.py Do expressions fit? Told exactly, in plain Lean. -/
import Derived.Test.YtcamegfnhbbaeaaM07
import Derived.Test.YtcamegfnhbbaeaaTreeI
namespace Go.Proofs.Ytcamegfnhbbaeaa
open Go.RowKit
set_option linter.unusedVariables false
set_option linter.unusedSimpArgs false
attribute [local go_sem] ite_max ite_min vite_max vite_min ext_cell ext_frozen

def strOf : Value → ByteArray
  | .string s => s
  | _ => ⟨#[]⟩

def wordL : List ByteArray := [⟨#[80, 82, 79, 71, 82, 65, 77]⟩, ⟨#[69, 78, 68, 95, 80, 82, 79, 71, 82, 65, 77]⟩, ⟨#[86, 65, 82]⟩, ⟨#[86, 65, 82, 95, 73, 78, 80, 85, 84]⟩, ⟨#[86, 65, 82, 95, 79, 85, 84, 80, 85, 84]⟩, ⟨#[69, 78, 68, 95, 86, 65, 82]⟩, ⟨#[73, 78, 84]⟩, ⟨#[66, 79, 79, 76]⟩, ⟨#[65, 82, 82, 65, 89]⟩, ⟨#[79, 70]⟩, ⟨#[84, 82, 85, 69]⟩, ⟨#[70, 65, 76, 83, 69]⟩, ⟨#[73, 70]⟩, ⟨#[84, 72, 69, 78]⟩, ⟨#[69, 76, 83, 73, 70]⟩, ⟨#[69, 76, 83, 69]⟩, ⟨#[69, 78, 68, 95, 73, 70]⟩, ⟨#[67, 65, 83, 69]⟩, ⟨#[69, 78, 68, 95, 67, 65, 83, 69]⟩, ⟨#[70, 79, 82]⟩, ⟨#[84, 79]⟩, ⟨#[66, 89]⟩, ⟨#[68, 79]⟩, ⟨#[69, 78, 68, 95, 70, 79, 82]⟩, ⟨#[87, 72, 73, 76, 69]⟩, ⟨#[69, 78, 68, 95, 87, 72, 73, 76, 69]⟩, ⟨#[82, 69, 80, 69, 65, 84]⟩, ⟨#[85, 78, 84, 73, 76]⟩, ⟨#[69, 78, 68, 95, 82, 69, 80, 69, 65, 84]⟩, ⟨#[69, 88, 73, 84]⟩, ⟨#[82, 69, 84, 85, 82, 78]⟩, ⟨#[65, 78, 68]⟩, ⟨#[79, 82]⟩, ⟨#[88, 79, 82]⟩, ⟨#[78, 79, 84]⟩, ⟨#[77, 79, 68]⟩]
def wordB (s : ByteArray) : Bool := wordL.any fun x => x.toList == s.toList
theorem wordL_len : wordL.length = 36 := rfl

set_option maxRecDepth 100000 in
set_option maxHeartbeats 2000000 in
theorem word_is (s : ByteArray) (w : World) : Calls Try.prog 51 #[.string s] w fun e w' => e = .returned (.bool (wordB s)) ∧ Below w.heap.size w w' := by
  obtain ⟨res, hres⟩ : ∃ r, wordB s = r := ⟨_, rfl⟩
  have HRES := Lib.hid hres
  rw [hres]
  clear hres
  go_enter Try.func51, Try.ntmps51
  go_upto_region 2 with (fail)
  refine wp_name fun W hW => ?_
  have hh : W.heap[w.heap.size]? = some (.cells (wordL.map Value.string).toArray 9) := by rw [hW.out]; exact heap_alloc_new _ _
  have hB : Below w.heap.size w W := by rw [hW.out]; (repeat' (first | (with_reducible exact Below.refl _ _) | (with_reducible assumption) | (with_reducible refine below_drewN ?_ _) | (with_reducible refine Below.drew ?_) | (with_reducible refine below_new ?_ (Nat.le_refl _) _) | (with_reducible refine Below.setCell ?_ ?_ _) | (with_reducible refine below_go ?_ (by assumption) (Nat.le_refl _)) | (simp; done) | (simp; omega) | omega))
  have hl : w.heap.size < W.heap.size := by rw [hW.out]; simp
  have HC : Hid (∀ i x, wordL[i]? = some x → W.cell? ⟨w.heap.size, i, none⟩ = some (.string x)) := Lib.hid (fun i x hx => heap_cell i _ hh (by rw [List.getElem?_toArray, List.getElem?_map, hx]; rfl))
  have HB := Lib.hid hB
  clear hW hh hB
  go_loopw [7] (fun vi wr => ∃ i : Nat, i ≤ 36 ∧ vi = .int .i64 i ∧ Hid (∀ j x, j < i → wordL[j]? = some x → (x.toList == s.toList) = false) ∧ Below W.heap.size W wr) (fun vi _ => 36 - (intOf vi).toNat)
  case atStart => exact ⟨0, by omega, rfl, Lib.hid (fun j x hj => by omega), Below.refl _ _⟩
  case round =>
    obtain ⟨i, hi, rfl, HNO, hbr⟩ := hrel
    by_cases hlt : i < 36
    · obtain ⟨x, hx⟩ : ∃ x, wordL[i]? = some x := ⟨_, List.getElem?_eq_getElem (by rw [wordL_len]; exact hlt)⟩
      have c0 := (hbr.cell (p := ⟨w.heap.size, i, none⟩) hl).trans (HC.out i x hx)
      have hi0 : (0 : Int) ≤ (i : Int) ∧ (i : Int) < 36 := by omega
      have HX := Lib.hid hx
      clear hx
      cases hq : (x.toList == s.toList)
      · have HQ := Lib.hid hq
        go_wp2
        go_roundw
        case rel =>
          refine ⟨i + 1, by omega, by go_num, Lib.hid (fun j y hj hy => ?_), hbr⟩
          rcases Nat.lt_succ_iff_lt_or_eq.1 hj with h | rfl
          · exact HNO.out j y h hy
          · rw [HX.out] at hy
            cases hy
            exact HQ.out
        case measure => simp [intOf]; omega
      · have hr : res = true := by
          rw [← HRES.out]
          unfold wordB
          rw [List.any_eq_true]
          exact ⟨x, List.mem_of_getElem? HX.out, hq⟩
        subst hr
        clear HRES
        go_wp2
        go_ret
        exact ⟨rfl, HB.out.trans (hbr.mono HB.out.size)⟩
    · obtain rfl : i = 36 := by omega
      have hr : res = false := by
        rw [← HRES.out]
        unfold wordB
        rw [List.any_eq_false]
        intro x hx
        obtain ⟨j, hj⟩ := List.getElem?_of_mem hx
        have hj2 := (List.getElem?_eq_some_iff.1 hj).1
        rw [wordL_len] at hj2
        rw [HNO.out j x hj2 hj]
        decide
      subst hr
      clear HRES
      go_wp2
      go_ret
      exact ⟨rfl, HB.out.trans (hbr.mono HB.out.size)⟩
/-- a letter, or behind the first also a digit or a bar -/
def charOk (i : Nat) (c : Int) : Bool := decide (65 ≤ c ∧ c ≤ 90 ∨ 97 ≤ c ∧ c ≤ 122) || (decide (i ≠ 0) && decide (c = 95 ∨ 48 ≤ c ∧ c ≤ 57))
def charAt (s : ByteArray) (i : Nat) : Int := ((s.data[i]?.getD 0).toNat : Int)
def nameB (s : ByteArray) : Bool := decide (1 ≤ s.size ∧ s.size ≤ 16) && !wordB s && (List.range s.size).all fun i => charOk i (charAt s i)

end Go.Proofs.Ytcamegfnhbbaeaa

namespace Go.Proofs.Ytcamegfnhbbaeaa
open Go.RowKit
set_option linter.unusedVariables false
set_option linter.unusedSimpArgs false
attribute [local go_sem] ite_max ite_min vite_max vite_min ext_cell ext_frozen

theorem charAt_get (s : ByteArray) (i : Nat) (h : i < s.size) : ((s[i]'h).toNat : Int) = charAt s i := by
  unfold charAt
  have h2 : i < s.data.size := h
  rw [Array.getElem?_eq_getElem h2]
  rfl
theorem nameB_no {s : ByteArray} {i : Nat} (hi : i < s.size) (h : charOk i (charAt s i) = false) : nameB s = false := by
  unfold nameB
  have : ((List.range s.size).all fun i => charOk i (charAt s i)) = false := by
    rw [List.all_eq_false]
    exact ⟨i, by simpa using hi, by rw [h]; decide⟩
  rw [this]
  simp
theorem nameB_yes {s : ByteArray} (h1 : 1 ≤ s.size ∧ s.size ≤ 16) (hw : wordB s = false) (h : ∀ i, i < s.size → charOk i (charAt s i) = true) : nameB s = true := by
  unfold nameB
  have : ((List.range s.size).all fun i => charOk i (charAt s i)) = true := by
    rw [List.all_eq_true]
    exact fun i hi => h i (by simpa using hi)
  rw [this, hw]
  simp [h1]

set_option maxRecDepth 100000 in
set_option maxHeartbeats 4000000 in
theorem name_is (s : ByteArray) (w : World) : Calls Try.prog 27 #[.string s] w fun e w' => e = .returned (.bool (nameB s)) ∧ Below w.heap.size w w' := by
  obtain ⟨res, hres⟩ : ∃ r, nameB s = r := ⟨_, rfl⟩
  have HRES := Lib.hid hres
  rw [hres]
  clear hres
  by_cases h1 : 1 ≤ s.size
  · by_cases h16 : s.size ≤ 16
    · have hn1 : ¬ (s.size : Int) < 1 := by omega
      have hn16 : ¬ 16 < (s.size : Int) := by omega
      have HN : Hid (1 ≤ s.size ∧ s.size ≤ 16) := Lib.hid ⟨h1, h16⟩
      obtain ⟨wb, hwb⟩ : ∃ r, wordB s = r := ⟨_, rfl⟩
      have HW := Lib.hid (fun w => word_is s w)
      rw [hwb] at HW
      have HWB := Lib.hid hwb
      clear hwb
      go_enter Try.func27, Try.ntmps27
      go_wp2_with fail
      refine (HW.out _).mono ?_
      rintro e w1 ⟨rfl, hb1⟩
      cases wb
      · go_wp2_with fail
        go_loopw [3] (fun vi wr => ∃ i : Nat, i ≤ s.size ∧ vi = .int .i64 i ∧ Hid (∀ j, j < i → charOk j (charAt s j) = true) ∧ Below w.heap.size w wr) (fun vi _ => s.size - (intOf vi).toNat)
        case atStart => exact ⟨0, by omega, rfl, Lib.hid (fun j hj => by omega), by (repeat' (first | (with_reducible exact Below.refl _ _) | (with_reducible assumption) | (with_reducible refine below_drewN ?_ _) | (with_reducible refine Below.drew ?_) | (with_reducible refine below_new ?_ (Nat.le_refl _) _) | (with_reducible refine Below.setCell ?_ ?_ _) | (with_reducible refine below_go ?_ (by assumption) (Nat.le_refl _)) | (simp; done) | (simp; omega) | omega))⟩
        case round =>
          obtain ⟨i, hi, rfl, HOK, hbr⟩ := hrel
          by_cases hlt : i < s.size
          · have hi0 : (0 : Int) ≤ (i : Int) ∧ (i : Int) < (s.size : Int) := by omega
            have hyes : charOk i (charAt s i) = true → ∀ j, j < i + 1 → charOk j (charAt s j) = true := fun h j hj => by
              rcases Nat.lt_succ_iff_lt_or_eq.1 hj with h2 | rfl
              · exact HOK.out j h2
              · exact h
            have HYES := Lib.hid hyes
            have HNO : Hid (charOk i (charAt s i) = false → res = false) := Lib.hid (fun h => by rw [← HRES.out]; exact nameB_no hlt h)
            clear hyes
            go_upto_region 7 with (fail)
            have hcb : (0 : Int) ≤ ((s[i]'hlt).toNat : Int) ∧ ((s[i]'hlt).toNat : Int) ≤ 255 := by
              have := (s[i]'hlt).toNat_lt
              omega
            have hca := charAt_get s i hlt
            generalize hcc : ((s[i]'hlt).toNat : Int) = c at hcb hca ⊢
            rw [← hca] at HYES HNO
            clear hcc hca
            rcases (show (0 ≤ c ∧ c ≤ 47) ∨ (48 ≤ c ∧ c ≤ 57) ∨ (58 ≤ c ∧ c ≤ 64) ∨ (65 ≤ c ∧ c ≤ 90) ∨ (91 ≤ c ∧ c ≤ 94) ∨ (95 ≤ c ∧ c ≤ 95) ∨ (96 ≤ c ∧ c ≤ 96) ∨ (97 ≤ c ∧ c ≤ 122) ∨ (123 ≤ c ∧ c ≤ 255) by omega) with h | h | h | h | h | h | h | h | h
            · by_cases hi1 : i = 0
              · have t1 : ¬ 65 ≤ c := by omega
                have t2 : c ≤ 90 := by omega
                have t3 : ¬ 97 ≤ c := by omega
                have t4 : c ≤ 122 := by omega
                have t5 : (c != 95) = true := by simp; omega
                have t6 : c < 48 := by omega
                have t7 : ¬ 57 < c := by omega
                have hz : ((i : Int) == 0) = true := by simp; omega
                have hok : charOk i c = false := by unfold charOk; simp; omega
                have hr := HNO.out hok
                subst hr
                clear hok hi1 HRES
                go_wp2
                go_ret
                exact ⟨rfl, hbr⟩
              · have t1 : ¬ 65 ≤ c := by omega
                have t2 : c ≤ 90 := by omega
                have t3 : ¬ 97 ≤ c := by omega
                have t4 : c ≤ 122 := by omega
                have t5 : (c != 95) = true := by simp; omega
                have t6 : c < 48 := by omega
                have t7 : ¬ 57 < c := by omega
                have hz : ((i : Int) == 0) = false := by simp; omega
                have hok : charOk i c = false := by unfold charOk; simp; omega
                have hr := HNO.out hok
                subst hr
                clear hok hi1 HRES
                go_wp2
                go_ret
                exact ⟨rfl, hbr⟩
            · by_cases hi1 : i = 0
              · have t1 : ¬ 65 ≤ c := by omega
                have t2 : c ≤ 90 := by omega
                have t3 : ¬ 97 ≤ c := by omega
                have t4 : c ≤ 122 := by omega
                have t5 : (c != 95) = true := by simp; omega
                have t6 : ¬ c < 48 := by omega
                have t7 : ¬ 57 < c := by omega
                have hz : ((i : Int) == 0) = true := by simp; omega
                have hok : charOk i c = false := by unfold charOk; simp; omega
                have hr := HNO.out hok
                subst hr
                clear hok hi1 HRES
                go_wp2
                go_ret
                exact ⟨rfl, hbr⟩
              · have t1 : ¬ 65 ≤ c := by omega
                have t2 : c ≤ 90 := by omega
                have t3 : ¬ 97 ≤ c := by omega
                have t4 : c ≤ 122 := by omega
                have t5 : (c != 95) = true := by simp; omega
                have t6 : ¬ c < 48 := by omega
                have t7 : ¬ 57 < c := by omega
                have hz : ((i : Int) == 0) = false := by simp; omega
                have hok : charOk i c = true := by unfold charOk; simp; omega
                have HY2 := Lib.hid (HYES.out hok)
                clear hok hi1
                go_wp2
                go_roundw
                case rel => exact ⟨i + 1, by omega, by go_num, HY2, hbr⟩
                case measure => simp [intOf]; omega
            · by_cases hi1 : i = 0
              · have t1 : ¬ 65 ≤ c := by omega
                have t2 : c ≤ 90 := by omega
                have t3 : ¬ 97 ≤ c := by omega
                have t4 : c ≤ 122 := by omega
                have t5 : (c != 95) = true := by simp; omega
                have t6 : ¬ c < 48 := by omega
                have t7 : 57 < c := by omega
                have hz : ((i : Int) == 0) = true := by simp; omega
                have hok : charOk i c = false := by unfold charOk; simp; omega
                have hr := HNO.out hok
                subst hr
                clear hok hi1 HRES
                go_wp2
                go_ret
                exact ⟨rfl, hbr⟩
              · have t1 : ¬ 65 ≤ c := by omega
                have t2 : c ≤ 90 := by omega
                have t3 : ¬ 97 ≤ c := by omega
                have t4 : c ≤ 122 := by omega
                have t5 : (c != 95) = true := by simp; omega
                have t6 : ¬ c < 48 := by omega
                have t7 : 57 < c := by omega
                have hz : ((i : Int) == 0) = false := by simp; omega
                have hok : charOk i c = false := by unfold charOk; simp; omega
                have hr := HNO.out hok
                subst hr
                clear hok hi1 HRES
                go_wp2
                go_ret
                exact ⟨rfl, hbr⟩
            · by_cases hi1 : i = 0
              · have t1 : 65 ≤ c := by omega
                have t2 : c ≤ 90 := by omega
                have t3 : ¬ 97 ≤ c := by omega
                have t4 : c ≤ 122 := by omega
                have t5 : (c != 95) = true := by simp; omega
                have t6 : ¬ c < 48 := by omega
                have t7 : 57 < c := by omega
                have hz : ((i : Int) == 0) = true := by simp; omega
                have hok : charOk i c = true := by unfold charOk; simp; omega
                have HY2 := Lib.hid (HYES.out hok)
                clear hok hi1
                go_wp2
                go_roundw
                case rel => exact ⟨i + 1, by omega, by go_num, HY2, hbr⟩
                case measure => simp [intOf]; omega
              · have t1 : 65 ≤ c := by omega
                have t2 : c ≤ 90 := by omega
                have t3 : ¬ 97 ≤ c := by omega
                have t4 : c ≤ 122 := by omega
                have t5 : (c != 95) = true := by simp; omega
                have t6 : ¬ c < 48 := by omega
                have t7 : 57 < c := by omega
                have hz : ((i : Int) == 0) = false := by simp; omega
                have hok : charOk i c = true := by unfold charOk; simp; omega
                have HY2 := Lib.hid (HYES.out hok)
                clear hok hi1
                go_wp2
                go_roundw
                case rel => exact ⟨i + 1, by omega, by go_num, HY2, hbr⟩
                case measure => simp [intOf]; omega
            · by_cases hi1 : i = 0
              · have t1 : 65 ≤ c := by omega
                have t2 : ¬ c ≤ 90 := by omega
                have t3 : ¬ 97 ≤ c := by omega
                have t4 : c ≤ 122 := by omega
                have t5 : (c != 95) = true := by simp; omega
                have t6 : ¬ c < 48 := by omega
                have t7 : 57 < c := by omega
                have hz : ((i : Int) == 0) = true := by simp; omega
                have hok : charOk i c = false := by unfold charOk; simp; omega
                have hr := HNO.out hok
                subst hr
                clear hok hi1 HRES
                go_wp2
                go_ret
                exact ⟨rfl, hbr⟩
              · have t1 : 65 ≤ c := by omega
                have t2 : ¬ c ≤ 90 := by omega
                have t3 : ¬ 97 ≤ c := by omega
                have t4 : c ≤ 122 := by omega
                have t5 : (c != 95) = true := by simp; omega
                have t6 : ¬ c < 48 := by omega
                have t7 : 57 < c := by omega
                have hz : ((i : Int) == 0) = false := by simp; omega
                have hok : charOk i c = false := by unfold charOk; simp; omega
                have hr := HNO.out hok
                subst hr
                clear hok hi1 HRES
                go_wp2
                go_ret
                exact ⟨rfl, hbr⟩
            · by_cases hi1 : i = 0
              · have t1 : 65 ≤ c := by omega
                have t2 : ¬ c ≤ 90 := by omega
                have t3 : ¬ 97 ≤ c := by omega
                have t4 : c ≤ 122 := by omega
                have t5 : (c != 95) = false := by simp; omega
                have t6 : ¬ c < 48 := by omega
                have t7 : 57 < c := by omega
                have hz : ((i : Int) == 0) = true := by simp; omega
                have hok : charOk i c = false := by unfold charOk; simp; omega
                have hr := HNO.out hok
                subst hr
                clear hok hi1 HRES
                go_wp2
                go_ret
                exact ⟨rfl, hbr⟩
              · have t1 : 65 ≤ c := by omega
                have t2 : ¬ c ≤ 90 := by omega
                have t3 : ¬ 97 ≤ c := by omega
                have t4 : c ≤ 122 := by omega
                have t5 : (c != 95) = false := by simp; omega
                have t6 : ¬ c < 48 := by omega
                have t7 : 57 < c := by omega
                have hz : ((i : Int) == 0) = false := by simp; omega
                have hok : charOk i c = true := by unfold charOk; simp; omega
                have HY2 := Lib.hid (HYES.out hok)
                clear hok hi1
                go_wp2
                go_roundw
                case rel => exact ⟨i + 1, by omega, by go_num, HY2, hbr⟩
                case measure => simp [intOf]; omega
            · by_cases hi1 : i = 0
              · have t1 : 65 ≤ c := by omega
                have t2 : ¬ c ≤ 90 := by omega
                have t3 : ¬ 97 ≤ c := by omega
                have t4 : c ≤ 122 := by omega
                have t5 : (c != 95) = true := by simp; omega
                have t6 : ¬ c < 48 := by omega
                have t7 : 57 < c := by omega
                have hz : ((i : Int) == 0) = true := by simp; omega
                have hok : charOk i c = false := by unfold charOk; simp; omega
                have hr := HNO.out hok
                subst hr
                clear hok hi1 HRES
                go_wp2
                go_ret
                exact ⟨rfl, hbr⟩
              · have t1 : 65 ≤ c := by omega
                have t2 : ¬ c ≤ 90 := by omega
                have t3 : ¬ 97 ≤ c := by omega
                have t4 : c ≤ 122 := by omega
                have t5 : (c != 95) = true := by simp; omega
                have t6 : ¬ c < 48 := by omega
                have t7 : 57 < c := by omega
                have hz : ((i : Int) == 0) = false := by simp; omega
                have hok : charOk i c = false := by unfold charOk; simp; omega
                have hr := HNO.out hok
                subst hr
                clear hok hi1 HRES
                go_wp2
                go_ret
                exact ⟨rfl, hbr⟩
            · by_cases hi1 : i = 0
              · have t1 : 65 ≤ c := by omega
                have t2 : ¬ c ≤ 90 := by omega
                have t3 : 97 ≤ c := by omega
                have t4 : c ≤ 122 := by omega
                have t5 : (c != 95) = true := by simp; omega
                have t6 : ¬ c < 48 := by omega
                have t7 : 57 < c := by omega
                have hz : ((i : Int) == 0) = true := by simp; omega
                have hok : charOk i c = true := by unfold charOk; simp; omega
                have HY2 := Lib.hid (HYES.out hok)
                clear hok hi1
                go_wp2
                go_roundw
                case rel => exact ⟨i + 1, by omega, by go_num, HY2, hbr⟩
                case measure => simp [intOf]; omega
              · have t1 : 65 ≤ c := by omega
                have t2 : ¬ c ≤ 90 := by omega
                have t3 : 97 ≤ c := by omega
                have t4 : c ≤ 122 := by omega
                have t5 : (c != 95) = true := by simp; omega
                have t6 : ¬ c < 48 := by omega
                have t7 : 57 < c := by omega
                have hz : ((i : Int) == 0) = false := by simp; omega
                have hok : charOk i c = true := by unfold charOk; simp; omega
                have HY2 := Lib.hid (HYES.out hok)
                clear hok hi1
                go_wp2
                go_roundw
                case rel => exact ⟨i + 1, by omega, by go_num, HY2, hbr⟩
                case measure => simp [intOf]; omega
            · by_cases hi1 : i = 0
              · have t1 : 65 ≤ c := by omega
                have t2 : ¬ c ≤ 90 := by omega
                have t3 : 97 ≤ c := by omega
                have t4 : ¬ c ≤ 122 := by omega
                have t5 : (c != 95) = true := by simp; omega
                have t6 : ¬ c < 48 := by omega
                have t7 : 57 < c := by omega
                have hz : ((i : Int) == 0) = true := by simp; omega
                have hok : charOk i c = false := by unfold charOk; simp; omega
                have hr := HNO.out hok
                subst hr
                clear hok hi1 HRES
                go_wp2
                go_ret
                exact ⟨rfl, hbr⟩
              · have t1 : 65 ≤ c := by omega
                have t2 : ¬ c ≤ 90 := by omega
                have t3 : 97 ≤ c := by omega
                have t4 : ¬ c ≤ 122 := by omega
                have t5 : (c != 95) = true := by simp; omega
                have t6 : ¬ c < 48 := by omega
                have t7 : 57 < c := by omega
                have hz : ((i : Int) == 0) = false := by simp; omega
                have hok : charOk i c = false := by unfold charOk; simp; omega
                have hr := HNO.out hok
                subst hr
                clear hok hi1 HRES
                go_wp2
                go_ret
                exact ⟨rfl, hbr⟩
          · obtain rfl : i = s.size := by omega
            have hr : res = true := by rw [← HRES.out]; exact nameB_yes HN.out HWB.out HOK.out
            subst hr
            clear HRES
            go_wp2
            go_ret
            exact ⟨rfl, hbr⟩
      · have hr : res = false := by
          rw [← HRES.out]
          unfold nameB
          rw [HWB.out]
          simp
        subst hr
        clear HRES
        go_wp2
        go_ret
        exact ⟨rfl, by (repeat' (first | (with_reducible exact Below.refl _ _) | (with_reducible assumption) | (with_reducible refine below_drewN ?_ _) | (with_reducible refine Below.drew ?_) | (with_reducible refine below_new ?_ (Nat.le_refl _) _) | (with_reducible refine Below.setCell ?_ ?_ _) | (with_reducible refine below_go ?_ (by assumption) (Nat.le_refl _)) | (simp; done) | (simp; omega) | omega))⟩
    · have hr : res = false := by
        rw [← HRES.out]
        unfold nameB
        rw [show decide (1 ≤ s.size ∧ s.size ≤ 16) = false by simp; omega]
        rfl
      subst hr
      have hn1 : ¬ (s.size : Int) < 1 := by omega
      have hn16 : 16 < (s.size : Int) := by omega
      clear HRES
      go_enter Try.func27, Try.ntmps27
      go_wp2
      go_ret
      exact ⟨rfl, by (repeat' (first | (with_reducible exact Below.refl _ _) | (with_reducible assumption) | (with_reducible refine below_drewN ?_ _) | (with_reducible refine Below.drew ?_) | (with_reducible refine below_new ?_ (Nat.le_refl _) _) | (with_reducible refine Below.setCell ?_ ?_ _) | (with_reducible refine below_go ?_ (by assumption) (Nat.le_refl _)) | (simp; done) | (simp; omega) | omega))⟩
  · have hr : res = false := by
      rw [← HRES.out]
      unfold nameB
      rw [show decide (1 ≤ s.size ∧ s.size ≤ 16) = false by simp; omega]
      rfl
    subst hr
    have hn1 : (s.size : Int) < 1 := by omega
    clear HRES
    go_enter Try.func27, Try.ntmps27
    go_wp2
    go_ret
    exact ⟨rfl, by (repeat' (first | (with_reducible exact Below.refl _ _) | (with_reducible assumption) | (with_reducible refine below_drewN ?_ _) | (with_reducible refine Below.drew ?_) | (with_reducible refine below_new ?_ (Nat.le_refl _) _) | (with_reducible refine Below.setCell ?_ ?_ _) | (with_reducible refine below_go ?_ (by assumption) (Nat.le_refl _)) | (simp; done) | (simp; omega) | omega))⟩

end Go.Proofs.Ytcamegfnhbbaeaa

namespace Go.Proofs.Ytcamegfnhbbaeaa
open Go.RowKit
set_option linter.unusedVariables false
set_option linter.unusedSimpArgs false

def namedX (op : Int) : Bool := decide (op = 3 ∨ op = 4 ∨ op = 5)
/-- an expression's own part fits -/
def fitXB (op n : Int) (nm fd : ByteArray) (k : Nat) : Bool :=
  decide (1 ≤ op ∧ op ≤ 21) && decide (op = 1 → 0 ≤ n) && decide (op = 2 → 0 ≤ n ∧ n ≤ 1) && decide (2 < op → n = 0) && decide (k = subsN op) && (if namedX op = true then nameB nm else decide (nm.toList = [])) && (if op = 5 then nameB fd else decide (fd.toList = []))
mutual
def fitEB : Ex → Bool
  | .mk op n nm fd sub _ => fitXB op n nm fd sub.length && fitEsB sub
def fitEsB : List Ex → Bool
  | [] => true
  | x :: l => fitEB x && fitEsB l
end
theorem fitEsB_no : ∀ {l : List Ex} {i : Nat} {x : Ex}, l[i]? = some x → fitEB x = false → fitEsB l = false
  | [], i, x, h, _ => by simp at h
  | y :: l, 0, x, h, hx => by
    simp at h
    subst h
    simp [fitEsB, hx]
  | y :: l, i + 1, x, h, hx => by
    have := fitEsB_no (l := l) (i := i) (x := x) (by simpa using h) hx
    simp [fitEsB, this]
theorem fitEsB_yes : ∀ {l : List Ex}, (∀ (i : Nat) (x : Ex), l[i]? = some x → fitEB x = true) → fitEsB l = true
  | [], _ => rfl
  | y :: l, h => by
    have h1 := h 0 y rfl
    have h2 := fitEsB_yes (l := l) fun i x hx => h (i + 1) x (by simpa using hx)
    simp [fitEsB, h1, h2]
theorem fitEB_top (x : Ex) : fitEB x = (fitXB x.op x.n x.name x.field x.sub.length && fitEsB x.sub) := by cases x; rfl
theorem fx_lo {x : Ex} (h : x.op < 1) : fitEB x = false := by rw [fitEB_top]; unfold fitXB; rw [show decide (1 ≤ x.op ∧ x.op ≤ 21) = false by simp; omega]; rfl
theorem fx_hi {x : Ex} (h : 21 < x.op) : fitEB x = false := by rw [fitEB_top]; unfold fitXB; rw [show decide (1 ≤ x.op ∧ x.op ≤ 21) = false by simp; omega]; rfl
theorem fx_num {x : Ex} (h : x.op = 1) (h2 : x.n < 0) : fitEB x = false := by rw [fitEB_top]; unfold fitXB; rw [show decide (x.op = 1 → 0 ≤ x.n) = false by simp; omega]; simp
theorem fx_tr {x : Ex} (h : x.op = 2) (h2 : x.n < 0 ∨ 1 < x.n) : fitEB x = false := by rw [fitEB_top]; unfold fitXB; rw [show decide (x.op = 2 → 0 ≤ x.n ∧ x.n ≤ 1) = false by simp; omega]; simp
theorem fx_zero {x : Ex} (h : 2 < x.op) (h2 : ¬ x.n = 0) : fitEB x = false := by rw [fitEB_top]; unfold fitXB; rw [show decide (2 < x.op → x.n = 0) = false by simp; omega]; simp
theorem fx_sub {x : Ex} (h : ¬ x.sub.length = subsN x.op) : fitEB x = false := by rw [fitEB_top]; unfold fitXB; rw [show decide (x.sub.length = subsN x.op) = false by simpa using h]; simp
theorem fx_nm1 {x : Ex} (h : namedX x.op = true) (h2 : nameB x.name = false) : fitEB x = false := by rw [fitEB_top]; unfold fitXB; rw [if_pos h, h2]; simp
theorem fx_nm2 {x : Ex} (h : namedX x.op = false) (h2 : ¬ x.name.toList = []) : fitEB x = false := by rw [fitEB_top]; unfold fitXB; rw [if_neg (by rw [h]; decide), show decide (x.name.toList = []) = false by simpa using h2]; simp
theorem fx_fd1 {x : Ex} (h : x.op = 5) (h2 : nameB x.field = false) : fitEB x = false := by rw [fitEB_top]; unfold fitXB; rw [if_pos h, h2]; simp
theorem fx_fd2 {x : Ex} (h : ¬ x.op = 5) (h2 : ¬ x.field.toList = []) : fitEB x = false := by rw [fitEB_top]; unfold fitXB; rw [if_neg h, show decide (x.field.toList = []) = false by simpa using h2]; simp
theorem fx_rec {x : Ex} (h : fitEsB x.sub = false) : fitEB x = false := by rw [fitEB_top, h]; simp
theorem fx_yes {x : Ex} (h1 : 1 ≤ x.op ∧ x.op ≤ 21) (h2 : x.op = 1 → 0 ≤ x.n) (h3 : x.op = 2 → 0 ≤ x.n ∧ x.n ≤ 1) (h4 : 2 < x.op → x.n = 0) (h5 : x.sub.length = subsN x.op) (h6 : (if namedX x.op = true then nameB x.name else decide (x.name.toList = [])) = true) (h7 : (if x.op = 5 then nameB x.field else decide (x.field.toList = [])) = true) (h8 : fitEsB x.sub = true) : fitEB x = true := by
  rw [fitEB_top]
  unfold fitXB
  rw [h6, h7, h8, show decide (1 ≤ x.op ∧ x.op ≤ 21) = true from decide_eq_true h1, show decide (x.op = 1 → 0 ≤ x.n) = true from decide_eq_true h2, show decide (x.op = 2 → 0 ≤ x.n ∧ x.n ≤ 1) = true from decide_eq_true h3, show decide (2 < x.op → x.n = 0) = true from decide_eq_true h4, show decide (x.sub.length = subsN x.op) = true from decide_eq_true h5]
  rfl
theorem nameB_size {s : ByteArray} (h : nameB s = true) : s.size ≤ 16 := by
  unfold nameB at h
  simp at h
  exact h.1.1.2
mutual
/-- what fits fits -/
theorem fitEB_fit : ∀ x : Ex, fitEB x = true → FitE x
  | .mk op n nm fd sub ln, h => by
    simp only [fitEB, Bool.and_eq_true] at h
    obtain ⟨h1, h2⟩ := h
    unfold fitXB at h1
    simp only [Bool.and_eq_true, decide_eq_true_eq] at h1
    obtain ⟨⟨⟨⟨⟨⟨a1, a2⟩, a3⟩, a4⟩, a5⟩, a6⟩, a7⟩ := h1
    refine .mk _ ⟨a1.1, a1.2, a5, a2, a3, a4, ?_, ?_⟩ (fitEsB_fit sub h2)
    · show nm.size ≤ 16
      split at a6
      · exact nameB_size a6
      · exact empty_le (by simpa using a6)
    · show fd.size ≤ 16
      split at a7
      · exact nameB_size a7
      · exact empty_le (by simpa using a7)
theorem fitEsB_fit : ∀ l : List Ex, fitEsB l = true → ∀ x ∈ l, FitE x
  | [], _, x, hx => by cases hx
  | y :: l, h, x, hx => by
    simp only [fitEsB, Bool.and_eq_true] at h
    rcases List.mem_cons.1 hx with he | hx
    · rw [he]
      exact fitEB_fit y h.1
    · exact fitEsB_fit l h.2 x hx
end

end Go.Proofs.Ytcamegfnhbbaeaa
