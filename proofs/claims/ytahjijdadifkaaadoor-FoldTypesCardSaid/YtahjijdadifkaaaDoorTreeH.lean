/- Is a string a name? -/
import Derived.Test.YtahjijdadifkaaaDoorM05
set_option maxHeartbeats 4000000
namespace Go.Proofs.YtahjijdadifkaaaDoor
open Go.RowKit
set_option linter.unusedVariables false
set_option linter.unusedSimpArgs false
attribute [local go_sem] ite_max ite_min vite_max vite_min ext_cell ext_frozen

def isStrV : Value → Bool
 | .string _ => true
 | _ => false
set_option maxRecDepth 100000 in
theorem word_any (s : ByteArray) (w : World) : Calls Tryd.prog 30 #[.string s] w fun e w' => SomeB e ∧ Below w.heap.size w w' := by
 go_enter Tryd.func30, Tryd.ntmps30
 go_upto_region 2 with (fail)
 refine wp_name fun W hW => ?_
 have hh : ∃ arr : Array Value, W.heap[w.heap.size]? = some (.cells arr 9) ∧ arr.size = 36 ∧ arr.toList.all isStrV = true := ⟨_, by rw [hW.out]; exact heap_alloc_new _ _, rfl, rfl⟩
 have hB : Below w.heap.size w W := by rw [hW.out]; exact belowBy
 have hl : w.heap.size < W.heap.size := by rw [hW.out]; simp
 obtain ⟨arr, harr, hsz, hall⟩ := hh
 have HC : Hid (∀ i, i < 36 → ∃ x : ByteArray, W.cell? ⟨w.heap.size, i, none⟩ = some (.string x)) := Lib.hid (fun i hi => by
  have hi' : i < arr.toList.length := by rw [Array.length_toList, hsz]; exact hi
  have h1 := List.all_eq_true.1 hall _ (List.getElem_mem hi')
  cases hv : arr.toList[i] <;> rw [hv] at h1 <;> first | (cases h1; done) | skip
  rename_i x
  exact ⟨x, heap_cell i _ harr (by rw [← Array.getElem?_toList, List.getElem?_eq_getElem hi', hv])⟩)
 have HB := Lib.hid hB
 clear hW harr hsz hall hB
 go_loopw [7] (fun vi wr => ∃ i : Nat, i ≤ 36 ∧ vi = .int .i64 i ∧ Below W.heap.size W wr) (fun vi _ => 36 - (intOf vi).toNat)
 case atStart => exact ⟨0, by omega, rfl, Below.refl _ _⟩
 case round =>
  obtain ⟨i, hi, rfl, hbr⟩ := hrel
  by_cases hlt : i < 36
  ·obtain ⟨x, hx⟩ := HC.out i hlt
   have c0 := (hbr.cell (p := ⟨w.heap.size, i, none⟩) hl).trans hx
   have hi0 : (0 : Int) ≤ (i : Int) ∧ (i : Int) < 36 := by omega
   cases hq : (x.toList == s.toList)
   ·go_wp2
    go_roundw
    case rel => exact ⟨i + 1, by omega, by go_num, hbr⟩
    case measure => simp [intOf]; omega
   ·go_wp2
    go_ret
    exact ⟨⟨_, rfl⟩, HB.out.trans (hbr.mono HB.out.size)⟩
  ·obtain rfl : i = 36 := by omega
   go_wp2
   go_ret
   exact ⟨⟨_, rfl⟩, HB.out.trans (hbr.mono HB.out.size)⟩

def NameB (s : ByteArray) (e : Ending) : Prop := ∃ b : Bool, e = .returned (.bool b) ∧ (b = true → 1 ≤ s.size ∧ s.size ≤ 16)

set_option maxRecDepth 100000 in
theorem name19_any (s : ByteArray) (w : World) : Calls Tryd.prog 14 #[.string s] w fun e w' => NameB s e ∧ Below w.heap.size w w' := by
 by_cases h1 : 1 ≤ s.size
 ·by_cases h16 : s.size ≤ 16
  ·have hn1 : ¬ (s.size : Int) < 1 := by omega
   have hn16 : ¬ 16 < (s.size : Int) := by omega
   obtain ⟨n, hn⟩ : ∃ n, s.size = n := ⟨_, rfl⟩
   have HN : Hid (1 ≤ s.size ∧ s.size ≤ 16) := Lib.hid ⟨h1, h16⟩
   go_enter Tryd.func14, Tryd.ntmps14
   go_wp2_with fail
   refine (word_any s _).mono ?_
   rintro e w1 ⟨⟨b, rfl⟩, hb1⟩
   cases b
   ·go_wp2_with fail
    go_loopw [3] (fun vi wr => ∃ i : Nat, i ≤ s.size ∧ vi = .int .i64 i ∧ Below w.heap.size w wr) (fun vi _ => s.size - (intOf vi).toNat)
    case atStart => exact ⟨0, by omega, rfl, by exact belowBy⟩
    case round =>
     obtain ⟨i, hi, rfl, hbr⟩ := hrel
     by_cases hlt : i < s.size
     ·have hi0 : (0 : Int) ≤ (i : Int) ∧ (i : Int) < (s.size : Int) := by omega
      go_upto_region 7 with (fail)
      have hcb : (0 : Int) ≤ ((s[i]'hlt).toNat : Int) ∧ ((s[i]'hlt).toNat : Int) ≤ 255 := by
       have := (s[i]'hlt).toNat_lt
       omega
      generalize hcc : ((s[i]'hlt).toNat : Int) = c at hcb ⊢
      clear hcc
      rcases (show (0 ≤ c ∧ c ≤ 47) ∨ (48 ≤ c ∧ c ≤ 57) ∨ (58 ≤ c ∧ c ≤ 64) ∨ (65 ≤ c ∧ c ≤ 90) ∨ (91 ≤ c ∧ c ≤ 94) ∨ (95 ≤ c ∧ c ≤ 95) ∨ (96 ≤ c ∧ c ≤ 96) ∨ (97 ≤ c ∧ c ≤ 122) ∨ (123 ≤ c ∧ c ≤ 255) by omega) with hr | hr | hr | hr | hr | hr | hr | hr | hr
      all_goals by_cases hi1 : i = 0
      ·have t1 : ¬ 65 ≤ c := by omega
       have t2 : c ≤ 90 := by omega
       have t3 : ¬ 97 ≤ c := by omega
       have t4 : c ≤ 122 := by omega
       have t5 : (c != 95) = true := by simp; omega
       have t6 : c < 48 := by omega
       have t7 : ¬ 57 < c := by omega
       have hz : ((i : Int) == 0) = true := by simp; omega
       clear hi1
       go_wp2
       go_ret
       exact ⟨⟨_, rfl, fun h => by cases h⟩, hbr⟩
      ·have t1 : ¬ 65 ≤ c := by omega
       have t2 : c ≤ 90 := by omega
       have t3 : ¬ 97 ≤ c := by omega
       have t4 : c ≤ 122 := by omega
       have t5 : (c != 95) = true := by simp; omega
       have t6 : c < 48 := by omega
       have t7 : ¬ 57 < c := by omega
       have hz : ((i : Int) == 0) = false := by simp; omega
       clear hi1
       go_wp2
       go_ret
       exact ⟨⟨_, rfl, fun h => by cases h⟩, hbr⟩
      ·have t1 : ¬ 65 ≤ c := by omega
       have t2 : c ≤ 90 := by omega
       have t3 : ¬ 97 ≤ c := by omega
       have t4 : c ≤ 122 := by omega
       have t5 : (c != 95) = true := by simp; omega
       have t6 : ¬ c < 48 := by omega
       have t7 : ¬ 57 < c := by omega
       have hz : ((i : Int) == 0) = true := by simp; omega
       clear hi1
       go_wp2
       go_ret
       exact ⟨⟨_, rfl, fun h => by cases h⟩, hbr⟩
      ·have t1 : ¬ 65 ≤ c := by omega
       have t2 : c ≤ 90 := by omega
       have t3 : ¬ 97 ≤ c := by omega
       have t4 : c ≤ 122 := by omega
       have t5 : (c != 95) = true := by simp; omega
       have t6 : ¬ c < 48 := by omega
       have t7 : ¬ 57 < c := by omega
       have hz : ((i : Int) == 0) = false := by simp; omega
       clear hi1
       go_wp2
       go_roundw
       case rel => exact ⟨i + 1, by omega, by go_num, hbr⟩
       case measure => simp [intOf]; omega
      ·have t1 : ¬ 65 ≤ c := by omega
       have t2 : c ≤ 90 := by omega
       have t3 : ¬ 97 ≤ c := by omega
       have t4 : c ≤ 122 := by omega
       have t5 : (c != 95) = true := by simp; omega
       have t6 : ¬ c < 48 := by omega
       have t7 : 57 < c := by omega
       have hz : ((i : Int) == 0) = true := by simp; omega
       clear hi1
       go_wp2
       go_ret
       exact ⟨⟨_, rfl, fun h => by cases h⟩, hbr⟩
      ·have t1 : ¬ 65 ≤ c := by omega
       have t2 : c ≤ 90 := by omega
       have t3 : ¬ 97 ≤ c := by omega
       have t4 : c ≤ 122 := by omega
       have t5 : (c != 95) = true := by simp; omega
       have t6 : ¬ c < 48 := by omega
       have t7 : 57 < c := by omega
       have hz : ((i : Int) == 0) = false := by simp; omega
       clear hi1
       go_wp2
       go_ret
       exact ⟨⟨_, rfl, fun h => by cases h⟩, hbr⟩
      ·have t1 : 65 ≤ c := by omega
       have t2 : c ≤ 90 := by omega
       have t3 : ¬ 97 ≤ c := by omega
       have t4 : c ≤ 122 := by omega
       have t5 : (c != 95) = true := by simp; omega
       have t6 : ¬ c < 48 := by omega
       have t7 : 57 < c := by omega
       have hz : ((i : Int) == 0) = true := by simp; omega
       clear hi1
       go_wp2
       go_roundw
       case rel => exact ⟨i + 1, by omega, by go_num, hbr⟩
       case measure => simp [intOf]; omega
      ·have t1 : 65 ≤ c := by omega
       have t2 : c ≤ 90 := by omega
       have t3 : ¬ 97 ≤ c := by omega
       have t4 : c ≤ 122 := by omega
       have t5 : (c != 95) = true := by simp; omega
       have t6 : ¬ c < 48 := by omega
       have t7 : 57 < c := by omega
       have hz : ((i : Int) == 0) = false := by simp; omega
       clear hi1
       go_wp2
       go_roundw
       case rel => exact ⟨i + 1, by omega, by go_num, hbr⟩
       case measure => simp [intOf]; omega
      ·have t1 : 65 ≤ c := by omega
       have t2 : ¬ c ≤ 90 := by omega
       have t3 : ¬ 97 ≤ c := by omega
       have t4 : c ≤ 122 := by omega
       have t5 : (c != 95) = true := by simp; omega
       have t6 : ¬ c < 48 := by omega
       have t7 : 57 < c := by omega
       have hz : ((i : Int) == 0) = true := by simp; omega
       clear hi1
       go_wp2
       go_ret
       exact ⟨⟨_, rfl, fun h => by cases h⟩, hbr⟩
      ·have t1 : 65 ≤ c := by omega
       have t2 : ¬ c ≤ 90 := by omega
       have t3 : ¬ 97 ≤ c := by omega
       have t4 : c ≤ 122 := by omega
       have t5 : (c != 95) = true := by simp; omega
       have t6 : ¬ c < 48 := by omega
       have t7 : 57 < c := by omega
       have hz : ((i : Int) == 0) = false := by simp; omega
       clear hi1
       go_wp2
       go_ret
       exact ⟨⟨_, rfl, fun h => by cases h⟩, hbr⟩
      ·have t1 : 65 ≤ c := by omega
       have t2 : ¬ c ≤ 90 := by omega
       have t3 : ¬ 97 ≤ c := by omega
       have t4 : c ≤ 122 := by omega
       have t5 : (c != 95) = false := by simp; omega
       have t6 : ¬ c < 48 := by omega
       have t7 : 57 < c := by omega
       have hz : ((i : Int) == 0) = true := by simp; omega
       clear hi1
       go_wp2
       go_ret
       exact ⟨⟨_, rfl, fun h => by cases h⟩, hbr⟩
      ·have t1 : 65 ≤ c := by omega
       have t2 : ¬ c ≤ 90 := by omega
       have t3 : ¬ 97 ≤ c := by omega
       have t4 : c ≤ 122 := by omega
       have t5 : (c != 95) = false := by simp; omega
       have t6 : ¬ c < 48 := by omega
       have t7 : 57 < c := by omega
       have hz : ((i : Int) == 0) = false := by simp; omega
       clear hi1
       go_wp2
       go_roundw
       case rel => exact ⟨i + 1, by omega, by go_num, hbr⟩
       case measure => simp [intOf]; omega
      ·have t1 : 65 ≤ c := by omega
       have t2 : ¬ c ≤ 90 := by omega
       have t3 : ¬ 97 ≤ c := by omega
       have t4 : c ≤ 122 := by omega
       have t5 : (c != 95) = true := by simp; omega
       have t6 : ¬ c < 48 := by omega
       have t7 : 57 < c := by omega
       have hz : ((i : Int) == 0) = true := by simp; omega
       clear hi1
       go_wp2
       go_ret
       exact ⟨⟨_, rfl, fun h => by cases h⟩, hbr⟩
      ·have t1 : 65 ≤ c := by omega
       have t2 : ¬ c ≤ 90 := by omega
       have t3 : ¬ 97 ≤ c := by omega
       have t4 : c ≤ 122 := by omega
       have t5 : (c != 95) = true := by simp; omega
       have t6 : ¬ c < 48 := by omega
       have t7 : 57 < c := by omega
       have hz : ((i : Int) == 0) = false := by simp; omega
       clear hi1
       go_wp2
       go_ret
       exact ⟨⟨_, rfl, fun h => by cases h⟩, hbr⟩
      ·have t1 : 65 ≤ c := by omega
       have t2 : ¬ c ≤ 90 := by omega
       have t3 : 97 ≤ c := by omega
       have t4 : c ≤ 122 := by omega
       have t5 : (c != 95) = true := by simp; omega
       have t6 : ¬ c < 48 := by omega
       have t7 : 57 < c := by omega
       have hz : ((i : Int) == 0) = true := by simp; omega
       clear hi1
       go_wp2
       go_roundw
       case rel => exact ⟨i + 1, by omega, by go_num, hbr⟩
       case measure => simp [intOf]; omega
      ·have t1 : 65 ≤ c := by omega
       have t2 : ¬ c ≤ 90 := by omega
       have t3 : 97 ≤ c := by omega
       have t4 : c ≤ 122 := by omega
       have t5 : (c != 95) = true := by simp; omega
       have t6 : ¬ c < 48 := by omega
       have t7 : 57 < c := by omega
       have hz : ((i : Int) == 0) = false := by simp; omega
       clear hi1
       go_wp2
       go_roundw
       case rel => exact ⟨i + 1, by omega, by go_num, hbr⟩
       case measure => simp [intOf]; omega
      ·have t1 : 65 ≤ c := by omega
       have t2 : ¬ c ≤ 90 := by omega
       have t3 : 97 ≤ c := by omega
       have t4 : ¬ c ≤ 122 := by omega
       have t5 : (c != 95) = true := by simp; omega
       have t6 : ¬ c < 48 := by omega
       have t7 : 57 < c := by omega
       have hz : ((i : Int) == 0) = true := by simp; omega
       clear hi1
       go_wp2
       go_ret
       exact ⟨⟨_, rfl, fun h => by cases h⟩, hbr⟩
      ·have t1 : 65 ≤ c := by omega
       have t2 : ¬ c ≤ 90 := by omega
       have t3 : 97 ≤ c := by omega
       have t4 : ¬ c ≤ 122 := by omega
       have t5 : (c != 95) = true := by simp; omega
       have t6 : ¬ c < 48 := by omega
       have t7 : 57 < c := by omega
       have hz : ((i : Int) == 0) = false := by simp; omega
       clear hi1
       go_wp2
       go_ret
       exact ⟨⟨_, rfl, fun h => by cases h⟩, hbr⟩
     ·have hge : ¬ (i : Int) < (s.size : Int) := by omega
      go_wp2
      go_ret
      exact ⟨⟨_, rfl, fun _ => HN.out⟩, hbr⟩
   ·go_wp2
    go_ret
    exact ⟨⟨_, rfl, fun h => by cases h⟩, by exact belowBy⟩
  ·have hn1 : ¬ (s.size : Int) < 1 := by omega
   have hn16 : 16 < (s.size : Int) := by omega
   go_enter Tryd.func14, Tryd.ntmps14
   go_wp2
   go_ret
   exact ⟨⟨_, rfl, fun h => by cases h⟩, by exact belowBy⟩
 ·have hn1 : (s.size : Int) < 1 := by omega
  go_enter Tryd.func14, Tryd.ntmps14
  go_wp2
  go_ret
  exact ⟨⟨_, rfl, fun h => by cases h⟩, by exact belowBy⟩

end Go.Proofs.YtahjijdadifkaaaDoor
