/- Contracts of layer 21: an operation's result. -/
import Derived.Test.YtcamegfnhbbaeaaFoldA
import Derived.Test.YtcamegfnhbbaeaaLie
import Derived.BigQuiet
namespace Go.Proofs.Ytcamegfnhbbaeaa
open Go.RowKit
set_option linter.unusedVariables false
set_option linter.unusedSimpArgs false
attribute [local go_sem] ite_max ite_min vite_max vite_min ext_cell ext_frozen

def intsF (xs : List Int) : List Value := xs.map fun x => .int .i64 x
theorem Lies.numF {w : World} {B n : Nat} {A : Option Addr} {xs : List Int} (h : Lies w B 1 A n (intsF xs)) (k : Nat) (hk : k < n) :
    ∃ b off x, A = some ⟨b, off, none⟩ ∧ b < B ∧ xs[k]? = some x ∧ w.cell? ⟨b, off + k, none⟩ = some (.int .i64 x) := by
  obtain ⟨b, off, e, hb, hc⟩ := h.2 (by omega)
  have hl : xs.length = n := by
    have := h.1
    rw [intsF, List.length_map] at this
    omega
  refine ⟨b, off, xs[k], e, hb, List.getElem?_eq_getElem (by omega), hc k _ ?_⟩
  rw [intsF, List.getElem?_map, List.getElem?_eq_getElem (by omega)]
  rfl
theorem Lies.numsF {w : World} {B n : Nat} {A : Option Addr} {xs : List Int} (h : Lies w B 1 A n (intsF xs)) : xs.length = n := by
  have := h.1
  rw [intsF, List.length_map] at this
  omega
def badT (z : Int) : Bool := !(z == 0 || z == 1)
theorem badT_no {z : Int} (h : badT z = false) : z = 0 ∨ z = 1 := by
  unfold badT at h
  have h2 : ¬ z = 0 → z = 1 := by simpa using h
  omega
def opF (op : Int) (zs : List Int) (tr : Bool) : Int × Bool × Int :=
  if (tr && zs.any badT) = true then (0, false, -1) else match zs with
  | [a] => op1 op a tr
  | [a, b] => if tr = true then opT op a b else if 8 ≤ op ∧ op ≤ 12 then opK op a b else if 13 ≤ op ∧ op ≤ 18 then opC op a b else (0, false, -1)
  | _ => (0, false, -1)
theorem opF_bad {op : Int} {zs : List Int} {k : Nat} {z : Int} (h : zs[k]? = some z) (hb : badT z = true) : opF op zs true = (0, false, -1) := by
  unfold opF
  rw [if_pos]
  rw [Bool.true_and, List.any_eq_true]
  exact ⟨z, List.mem_of_getElem? h, hb⟩
theorem opF_one {op a : Int} {tr : Bool} (h : tr = true → badT a = false) : opF op [a] tr = op1 op a tr := by
  unfold opF
  cases tr
  · rfl
  · simp [h rfl]
theorem opF_two {op a b : Int} : opF op [a, b] false = if 8 ≤ op ∧ op ≤ 12 then opK op a b else if 13 ≤ op ∧ op ≤ 18 then opC op a b else (0, false, -1) := by
  unfold opF
  simp
theorem opF_twoT {op a b : Int} (h1 : badT a = false) (h2 : badT b = false) : opF op [a, b] true = opT op a b := by
  unfold opF
  simp [h1, h2]
theorem opF_else {op : Int} {zs : List Int} {tr : Bool} (h1 : zs.length ≠ 1) (h2 : zs.length ≠ 2) : opF op zs tr = (0, false, -1) := by
  unfold opF
  match zs, h1, h2 with
  | [], _, _ => simp
  | [a], h, _ => exact absurd rfl h
  | [a, b], _, h => exact absurd rfl h
  | a :: b :: c :: l, _, _ => simp
theorem opV_none : opV (0, false, -1) = .tuple #[.int .i64 0, .bool false, .int .i64 (-1)] := rfl

set_option maxRecDepth 100000 in
set_option maxHeartbeats 4000000 in
theorem fop_any (op : Int) (zs : List Int) (tr : Bool) (A : Option Addr) (n c : Nat) (w : World) (h : Lies w w.heap.size 1 A n (intsF zs)) (hn : n ≤ c) (hc : c ≤ 9223372036854775807) (hz : ∀ z ∈ zs, -9223372036854775808 ≤ z ∧ z ≤ 9223372036854775807) :
    Calls Try.prog 7 #[.int .i64 op, .slice A n c, .bool tr] w fun e w' => e = .returned (opV (opF op zs tr)) ∧ Below w.heap.size w w' := by
  have HX := Lib.hid h
  have HL := Lib.hid h.numsF
  have HZ := Lib.hid hz
  obtain ⟨R, hR⟩ : ∃ R, opF op zs tr = R := ⟨_, rfl⟩
  rw [hR]
  have HR := Lib.hid hR
  clear h hz hR
  go_enter Try.func7, Try.ntmps7
  go_wp2_with fail
  go_loopw [13] (fun u wr => ∃ k : Nat, k ≤ n ∧ u = .int .i64 k ∧ Hid (tr = true → ∀ i z, i < k → zs[i]? = some z → badT z = false) ∧ wr = w) (fun u _ => n - (intOf u).toNat)
  case atStart => exact ⟨0, by omega, rfl, Lib.hid (fun _ i z hi => absurd hi (by omega)), rfl⟩
  case round =>
    obtain ⟨k, hk, rfl, HK, rfl⟩ := hrel
    by_cases hlt : k < n
    · obtain ⟨b, off, x, rfl, hb, hxk, hcell⟩ := HX.out.numF k hlt
      have hk0 : (0 : Int) ≤ (k : Int) := by omega
      have hkn : (k : Int) < (n : Int) := by omega
      have HXK := Lib.hid hxk
      cases tr
      · clear hxk
        go_wp2
        go_roundw
        case rel => exact ⟨k + 1, by omega, by go_num, Lib.hid (fun h => by cases h), trivial⟩
        case measure => simp [intOf]; omega
      · cases hbd : badT x
        · have hx2 := badT_no hbd
          have HNX : Hid (∀ i z, i < k + 1 → zs[i]? = some z → badT z = false) := Lib.hid (fun i z hi hz => by
            rcases Nat.lt_or_ge i k with h1 | h1
            · exact HK.out rfl i z h1 hz
            · obtain rfl : i = k := by omega
              rw [HXK.out] at hz
              obtain rfl := Option.some.inj hz
              exact hbd)
          clear hxk hbd
          rcases hx2 with rfl | rfl
          · go_wp2
            go_roundw
            case rel => exact ⟨k + 1, by omega, by go_num, Lib.hid (fun _ => HNX.out), trivial⟩
            case measure => simp [intOf]; omega
          · go_wp2
            go_roundw
            case rel => exact ⟨k + 1, by omega, by go_num, Lib.hid (fun _ => HNX.out), trivial⟩
            case measure => simp [intOf]; omega
        · have hr : R = (0, false, -1) := by rw [← HR.out]; exact opF_bad hxk hbd
          subst hr
          have hx0 : (x == 0) = false ∧ (x == 1) = false := by
            unfold badT at hbd
            simpa using hbd
          obtain ⟨q0, q1⟩ := hx0
          have n0 : ¬ x = 0 := by simpa using q0
          have n1 : ¬ x = 1 := by simpa using q1
          have b0 : (x != 0) = true := by simpa using n0
          have b1 : (x != 1) = true := by simpa using n1
          clear hxk hbd HR
          go_wp2
          go_ret3
          exact ⟨rfl, Below.refl _ _⟩
    · obtain rfl : n = k := by omega
      clear hlt hk
      rcases (show n = 1 ∨ n = 2 ∨ (n ≠ 1 ∧ n ≠ 2) by omega) with h1 | h1 | ⟨h1, h2⟩
      · subst h1
        obtain ⟨b, off, a, rfl, hb, hxk, hcell⟩ := HX.out.numF 0 (by omega)
        obtain rfl : zs = [a] := by
          have := HL.out
          match zs, this with
          | [y], _ => simpa using hxk
        have hg : tr = true → badT a = false := fun h => HK.out h 0 a (by omega) hxk
        have ha := HZ.out a (by simp)
        have hr : op1 op a tr = R := by rw [← HR.out]; exact (opF_one hg).symm
        have hcon := fun w => ofone_any op a tr w ha (fun h => by have := badT_no (hg h); omega)
        rw [hr] at hcon
        obtain ⟨r1, r2, r3⟩ := R
        simp only [opV] at hcon
        have HC := Lib.hid hcon
        simp only [Nat.add_zero] at hcell
        clear hg ha hr hcon hxk HR HZ HK HL HX
        go_wp2_with fail
        refine (HC.out _).mono ?_
        rintro e w1 ⟨rfl, rfl⟩
        go_wp2
        go_ret3
        exact ⟨rfl, Below.refl _ _⟩
      · subst h1
        obtain ⟨b, off, a, rfl, hb, hxk, hcell⟩ := HX.out.numF 0 (by omega)
        obtain ⟨b', off', a', e', hb', hxk', hcell'⟩ := HX.out.numF 1 (by omega)
        injection e' with e'
        injection e' with e1 e2
        subst e1 e2
        obtain rfl : zs = [a, a'] := by
          have := HL.out
          match zs, this with
          | [y, z], _ => simp at hxk hxk'; rw [hxk, hxk']
        have ha := HZ.out a (by simp)
        have ha' := HZ.out a' (by simp)
        simp only [Nat.add_zero] at hcell
        cases tr
        · rcases (show (8 ≤ op ∧ op ≤ 12) ∨ (13 ≤ op ∧ op ≤ 18) ∨ (op < 8 ∨ 18 < op) by omega) with ho | ho | ho
          · have hr : opK op a a' = R := by rw [← HR.out, opF_two, if_pos ho]
            have hcon := fun w => reckoned_any op a a' w ho ha ha'
            rw [hr] at hcon
            obtain ⟨r1, r2, r3⟩ := R
            simp only [opV] at hcon
            have HC := Lib.hid hcon
            obtain ⟨ho1, ho2⟩ := ho
            clear ha ha' hr hcon hxk hxk' HR HZ HK HL HX
            go_wp2_with fail
            go_quiet (first | (go_at_call 18; exact quiet_left (HC.out _)))
            go_wp2
            go_ret3
            exact ⟨rfl, by (repeat' (first | (with_reducible exact Below.refl _ _) | (with_reducible assumption) | (with_reducible refine below_drewN ?_ _) | (with_reducible refine Below.drew ?_) | (with_reducible refine below_new ?_ (Nat.le_refl _) _) | (with_reducible refine Below.setCell ?_ ?_ _) | (with_reducible refine below_go ?_ (by assumption) (Nat.le_refl _)) | (simp; done) | (simp; omega) | omega))⟩
          · have hr : opC op a a' = R := by rw [← HR.out, opF_two, if_neg (by omega), if_pos ho]
            have hcon := fun w => compared_any op a a' w ho
            rw [hr] at hcon
            obtain ⟨r1, r2, r3⟩ := R
            simp only [opV] at hcon
            have HC := Lib.hid hcon
            obtain ⟨ho1, ho2⟩ := ho
            have ho3 : (12 : Int) < op := by omega
            clear ha ha' hr hcon hxk hxk' HR HZ HK HL HX
            go_wp2_with fail
            go_quiet (first | (go_at_call 19; exact quiet_left (HC.out _)))
            go_wp2
            go_ret3
            exact ⟨rfl, by (repeat' (first | (with_reducible exact Below.refl _ _) | (with_reducible assumption) | (with_reducible refine below_drewN ?_ _) | (with_reducible refine Below.drew ?_) | (with_reducible refine below_new ?_ (Nat.le_refl _) _) | (with_reducible refine Below.setCell ?_ ?_ _) | (with_reducible refine below_go ?_ (by assumption) (Nat.le_refl _)) | (simp; done) | (simp; omega) | omega))⟩
          · have hr : R = (0, false, -1) := by rw [← HR.out, opF_two, if_neg (by omega), if_neg (by omega)]
            subst hr
            clear ha ha' hxk hxk' HR HZ HK HL HX
            rcases ho with ho | ho
            · have ho2 : op < 13 := by omega
              go_wp2
              go_ret3
              exact ⟨rfl, Below.refl _ _⟩
            · have ho2 : 12 < op := by omega
              go_wp2
              go_ret3
              exact ⟨rfl, Below.refl _ _⟩
        · have hg := HK.out rfl 0 a (by omega) hxk
          have hg' := HK.out rfl 1 a' (by omega) hxk'
          have hr : opT op a a' = R := by rw [← HR.out]; exact (opF_twoT hg hg').symm
          have hcon := fun w => oftruths_any op a a' w (badT_no hg) (badT_no hg')
          rw [hr] at hcon
          obtain ⟨r1, r2, r3⟩ := R
          simp only [opV] at hcon
          have HC := Lib.hid hcon
          clear ha ha' hr hcon hxk hxk' HR HZ HK HL HX hg hg'
          go_wp2_with fail
          go_quiet (first | (go_at_call 17; exact quiet_left (HC.out _)))
          go_wp2
          go_ret3
          exact ⟨rfl, by (repeat' (first | (with_reducible exact Below.refl _ _) | (with_reducible assumption) | (with_reducible refine below_drewN ?_ _) | (with_reducible refine Below.drew ?_) | (with_reducible refine below_new ?_ (Nat.le_refl _) _) | (with_reducible refine Below.setCell ?_ ?_ _) | (with_reducible refine below_go ?_ (by assumption) (Nat.le_refl _)) | (simp; done) | (simp; omega) | omega))⟩
      · have hr : R = (0, false, -1) := by rw [← HR.out]; exact opF_else (by rw [HL.out]; exact h1) (by rw [HL.out]; exact h2)
        subst hr
        have q1 : ((n : Int) == 1) = false := by simp; omega
        have q2 : ((n : Int) == 2) = false := by simp; omega
        clear HR HZ HK HL HX
        go_wp2
        go_ret3
        exact ⟨rfl, Below.refl _ _⟩

end Go.Proofs.Ytcamegfnhbbaeaa
