/- Merged: Layer 16: the two tables have the same pins. slices.IndexFunc over the pins of a kind. -/
import Derived.Test.YtknnhnefbbjcdaaDoorM16
import Derived.Test.YtknnhnefbbjcdaaDoorM44
import Derived.Test.YtknnhnefbbjcdaaDoorM41
namespace Go.Proofs.YtknnhnefbbjcdaaDoor
open Go.RowKit
set_option linter.unusedVariables false
set_option linter.unusedSimpArgs false

theorem tabs_some : ∀ kind ∈ ([10, 11, 12, 13, 14, 15, 16, 17, 18, 20, 21, 22, 23, 24, 25, 26, 27, 28, 29, 30, 31] : List Int), pinsOf kind = rpinsOf kind ∧ countOf kind = rcount kind := by
 intro kind h
 simp only [List.mem_cons, List.not_mem_nil, or_false] at h
 rcases h with rfl | rfl | rfl | rfl | rfl | rfl | rfl | rfl | rfl | rfl | rfl | rfl | rfl | rfl | rfl | rfl | rfl | rfl | rfl | rfl | rfl
 all_goals exact ⟨by kernel_rfl, by kernel_rfl⟩
theorem shk_all : shL.all (fun s => ([10, 11, 12, 13, 14, 15, 16, 17, 18, 20, 21, 22, 23, 24, 25, 26, 27, 28, 29, 30, 31] : List Int).contains s.kind) = true := by kernel_rfl
theorem rwk_all : rwL.all (fun s => ([10, 11, 12, 13, 14, 15, 16, 17, 18, 20, 21, 22, 23, 24, 25, 26, 27, 28, 29, 30, 31] : List Int).contains s.kind) = true := by kernel_rfl
theorem tabs_is (kind : Int) : pinsOf kind = rpinsOf kind ∧ countOf kind = rcount kind := by
 by_cases h : kind ∈ ([10, 11, 12, 13, 14, 15, 16, 17, 18, 20, 21, 22, 23, 24, 25, 26, 27, 28, 29, 30, 31] : List Int)
 ·exact tabs_some kind h
 ·have h1 : shL.find? (fun s => decide (s.kind = kind)) = none := by
   rw [List.find?_eq_none]
   intro s hs hk
   have := List.all_eq_true.1 shk_all s hs
   simp only [decide_eq_true_eq] at hk
   rw [hk] at this
   exact h (by simpa using this)
  have h2 : rwL.find? (fun s => decide (s.kind = kind)) = none := by
   rw [List.find?_eq_none]
   intro s hs hk
   have := List.all_eq_true.1 rwk_all s hs
   simp only [decide_eq_true_eq] at hk
   rw [hk] at this
   exact h (by simpa using this)
  unfold pinsOf rpinsOf countOf rcount rfind
  rw [h1, h2]
  exact ⟨rfl, rfl⟩
theorem rcount_few (kind : Int) : rcount kind ≤ 64 := by
 by_cases h : kind ∈ ([10, 11, 12, 13, 14, 15, 16, 17, 18, 20, 21, 22, 23, 24, 25, 26, 27, 28, 29, 30, 31] : List Int)
 ·simp only [List.mem_cons, List.not_mem_nil, or_false] at h
  rcases h with rfl | rfl | rfl | rfl | rfl | rfl | rfl | rfl | rfl | rfl | rfl | rfl | rfl | rfl | rfl | rfl | rfl | rfl | rfl | rfl | rfl
  all_goals decide +kernel
 ·have h2 : rwL.find? (fun s => decide (s.kind = kind)) = none := by
   rw [List.find?_eq_none]
   intro s hs hk
   have := List.all_eq_true.1 rwk_all s hs
   simp only [decide_eq_true_eq] at hk
   rw [hk] at this
   exact h (by simpa using this)
  unfold rcount rfind
  rw [h2]
  exact Nat.zero_le _

end Go.Proofs.YtknnhnefbbjcdaaDoor

namespace Go.Proofs.YtknnhnefbbjcdaaDoor
open Go.RowKit
set_option linter.unusedVariables false
set_option linter.unusedSimpArgs false
attribute [local go_sem] ite_max ite_min vite_max vite_min ext_cell ext_frozen extS_cell extS_frozen

def ixV : Option Nat → Int
 | some k => k
 | none => -1
def pinA (kind : Int) (k : Nat) : Value := .agg #[.string (pinNm kind k), .int .i64 (pinTy kind k), .bool (pinIn kind k)]

set_option maxRecDepth 100000 in
set_option maxHeartbeats 2000000 in
theorem ix_pin (F : FuncId) (caps : Array Value) (p : Nat → Bool) (kind : Int) (A : Option Addr) (c : Nat) (w : World) (hcap : rcount kind ≤ c ∧ c ≤ 9223372036854775807) (hr : RowK w A kind)
  (hcf : ∀ (args : Array Value) (w : World), Sem.run Tryd.prog (callFunc F args) w = .ok (.enter F args) w)
  (hF : ∀ (k : Nat) w', Below w.heap.size w w' → Calls Tryd.prog F (#[pinA kind k] ++ caps) w' fun e w'' => e = .returned (.bool (p k)) ∧ Below w'.heap.size w' w'') :
  Calls Tryd.prog 37 #[.slice A (rcount kind) c, .func (.func F) #[] caps] w fun e w' => e = .returned (.int .i64 (ixV ((List.range (rcount kind)).find? p))) ∧ Below w.heap.size w w' := by
 obtain ⟨n, hn⟩ : ∃ n, rcount kind = n := ⟨_, rfl⟩
 obtain ⟨res, hres⟩ : ∃ r, (List.range (rcount kind)).find? p = r := ⟨_, rfl⟩
 have HRES := Lib.hid hres
 have HN := Lib.hid hn
 have HF := Lib.hid hF
 have HC := Lib.hid hr
 rw [hres]
 rw [hn] at hcap ⊢
 obtain ⟨hc1, hc2⟩ := hcap
 clear hF hr hn hres
 go_enter Tryd.func37, Tryd.ntmps37
 go_wp2_with fail
 go_loopw [8] (fun u wr => ∃ k : Nat, k ≤ n ∧ u = .int .i64 k ∧ Hid (∀ j, j < k → p j = false) ∧ Below w.heap.size w wr) (fun u _ => n - (intOf u).toNat)
 case atStart => exact ⟨0, by omega, rfl, Lib.hid (fun j hj => by omega), Below.refl _ _⟩
 case round =>
  obtain ⟨k, hk, rfl, HK, hbr⟩ := hrel
  by_cases hlt : k < n
  ·obtain ⟨b, rfl, hbl, c0, c1, c2⟩ := HC.out.below hbr k (by rw [HN.out]; exact hlt)
   have hk0 : (0 : Int) ≤ (k : Int) := by omega
   have hkn : (k : Int) < (n : Int) := by omega
   have HFk := HF.out k wr hbr
   unfold pinA at HFk
   obtain ⟨s0, hs0⟩ : ∃ x, pinNm kind k = x := ⟨_, rfl⟩
   obtain ⟨s1, hs1⟩ : ∃ x, pinTy kind k = x := ⟨_, rfl⟩
   obtain ⟨s2, hs2⟩ : ∃ x, pinIn kind k = x := ⟨_, rfl⟩
   rw [hs0] at c0 HFk
   rw [hs1] at c1 HFk
   rw [hs2] at c2 HFk
   clear hs0 hs1 hs2
   cases hp : p k
   ·rw [hp] at HFk
    have HP := Lib.hid hp
    have HF2 := Lib.hid HFk
    clear hp HFk
    go_wp2_with fail
    refine HF2.out.mono ?_
    rintro e w' ⟨rfl, hb2⟩
    go_wp2
    go_roundw
    case rel =>
     refine ⟨k + 1, by omega, by go_num, Lib.hid (fun j hj => ?_), by exact belowBy⟩
     rcases Nat.lt_succ_iff_lt_or_eq.1 hj with h | rfl
     ·exact HK.out j h
     ·exact HP.out
    case measure => simp [intOf]; omega
   ·rw [hp] at HFk
    have hr2 : res = some k := by rw [← HRES.out]; exact range_find (by rw [HN.out]; exact hlt) hp HK.out
    subst hr2
    have HF2 := Lib.hid HFk
    clear hp HFk HRES
    go_wp2_with fail
    refine HF2.out.mono ?_
    rintro e w' ⟨rfl, hb2⟩
    go_wp2
    go_ret
    exact ⟨rfl, by exact belowBy⟩
  ·obtain rfl : k = n := by omega
   have hr2 : res = none := by rw [← HRES.out]; exact range_find_none (fun j hj => HK.out j (by rw [HN.out] at hj; exact hj))
   subst hr2
   clear HRES
   go_wp2
   go_ret
   exact ⟨rfl, hbr⟩

theorem pins_rowK (kind : Int) (w : World) (ht : Blanks w) : Calls Tryd.prog 35 #[.int .i64 kind] w fun e w' => (∃ A c, e = .returned (.slice A (rcount kind) c) ∧ rcount kind ≤ c ∧ c ≤ 9223372036854775807 ∧ RowK w' A kind) ∧ Below w.heap.size w w' :=
 (pins_any kind w ht).mono fun e w' ⟨v, he, ho, hb⟩ => by
  rw [(tabs_is kind).1, (tabs_is kind).2] at ho
  obtain ⟨A, c, rfl, h1, h2, h3⟩ := rowK_of ho
  exact ⟨⟨A, c, he, h1, h2, h3⟩, hb⟩
theorem cf_pin1 (args : Array Value) (w : World) : Sem.run Tryd.prog (callFunc 38 args) w = .ok (.enter 38 args) w := by
 go_simp

set_option maxHeartbeats 1000000 in
theorem pin1_any (s : ByteArray) (t : Int) (b : Bool) (c : Nat) (nm : ByteArray) (w : World) (hc : w.cell? ⟨c, 0, none⟩ = some (.string nm)) (hl : c < w.heap.size) :
  Calls Tryd.prog 38 #[.agg #[.string s, .int .i64 t, .bool b], .pointer (some ⟨c, 0, none⟩)] w fun e w' => e = .returned (.bool (s.toList == nm.toList)) ∧ Below w.heap.size w w' := by
 go_enter Tryd.func38, Tryd.ntmps38
 go_wp2
 go_ret
 exact ⟨rfl, by exact belowBy⟩

end Go.Proofs.YtknnhnefbbjcdaaDoor
