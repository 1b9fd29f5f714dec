/- Merged: Contracts of layer 21: an operation's result. Layer 21, plain: what is counted while an expression is folded. Contracts of layer 21, the reference: an operation's result. Layer 21, FoldOps: the walk, the fixed answer being given. Layer 21: a leaf is folded to itself. Layer 21: constants; the expression of a number. -/
import Derived.Test.YtahjijdadifkaaaDoorM10
import Derived.Test.YtahjijdadifkaaaDoorM00
import Derived.BigQuiet
import Derived.Test.YtahjijdadifkaaaDoorM09
set_option linter.unusedVariables false
set_option linter.unusedSimpArgs false
set_option maxHeartbeats 4000000
namespace Go.Proofs.YtahjijdadifkaaaDoor
open Go.RowKit
attribute [local go_sem] ite_max ite_min vite_max vite_min ext_cell ext_frozen

def intsF (xs : List Int) : List Value := xs.map fun x => .int .i64 x
theorem Lies.numF {w : World} {B n : Nat} {A : Option Addr} {xs : List Int} (h : Lies w B 1 A n (intsF xs)) (k : Nat) (hk : k < n) :
  ∃ b off x, A = some ⟨b, off, none⟩ ∧ b < B ∧ xs[k]? = some x ∧ w.cell? ⟨b, off + k, none⟩ = some (.int .i64 x) := by
 obtain ⟨b, off, e, hb, hc⟩ := h.2 (by omega)
 have hl : xs.length = n := by
  have := h.1
  rw [intsF, List.length_map] at this
  omega
 refine ⟨b, off, xs[k], e, hb, List.getElem?_eq_getElem (by omega), hc k _ ?_⟩
 rw [intsF, List.getElem?_map, List.getElem?_eq_getElem (by omega)]
 rfl
theorem Lies.numsF {w : World} {B n : Nat} {A : Option Addr} {xs : List Int} (h : Lies w B 1 A n (intsF xs)) : xs.length = n := by
 have := h.1
 rw [intsF, List.length_map] at this
 omega
def badT (z : Int) : Bool := !(z == 0 || z == 1)
theorem badT_no {z : Int} (h : badT z = false) : z = 0 ∨ z = 1 := by
 unfold badT at h
 have h2 : ¬ z = 0 → z = 1 := by simpa using h
 omega
def opF (op : Int) (zs : List Int) (tr : Bool) : Int × Bool × Int :=
 if (tr && zs.any badT) = true then (0, false, -1) else match zs with
 | [a] => op1 op a tr
 | [a, b] => if tr = true then opT op a b else if 8 ≤ op ∧ op ≤ 12 then opK op a b else if 13 ≤ op ∧ op ≤ 18 then opC op a b else (0, false, -1)
 | _ => (0, false, -1)
theorem opF_bad {op : Int} {zs : List Int} {k : Nat} {z : Int} (h : zs[k]? = some z) (hb : badT z = true) : opF op zs true = (0, false, -1) := by
 unfold opF
 rw [if_pos]
 rw [Bool.true_and, List.any_eq_true]
 exact ⟨z, List.mem_of_getElem? h, hb⟩
theorem opF_one {op a : Int} {tr : Bool} (h : tr = true → badT a = false) : opF op [a] tr = op1 op a tr := by
 unfold opF
 cases tr
 ·rfl
 ·simp [h rfl]
theorem opF_two {op a b : Int} : opF op [a, b] false = if 8 ≤ op ∧ op ≤ 12 then opK op a b else if 13 ≤ op ∧ op ≤ 18 then opC op a b else (0, false, -1) := by
 unfold opF
 simp
theorem opF_twoT {op a b : Int} (h1 : badT a = false) (h2 : badT b = false) : opF op [a, b] true = opT op a b := by
 unfold opF
 simp [h1, h2]
theorem opF_else {op : Int} {zs : List Int} {tr : Bool} (h1 : zs.length ≠ 1) (h2 : zs.length ≠ 2) : opF op zs tr = (0, false, -1) := by
 unfold opF
 match zs, h1, h2 with
 | [], _, _ => simp
 | [a], h, _ => exact absurd rfl h
 | [a, b], _, h => exact absurd rfl h
 | a :: b :: c :: l, _, _ => simp
set_option maxRecDepth 100000 in
theorem fop_any (op : Int) (zs : List Int) (tr : Bool) (A : Option Addr) (n c : Nat) (w : World) (h : Lies w w.heap.size 1 A n (intsF zs)) (hn : n ≤ c) (hc : c ≤ 9223372036854775807) (hz : ∀ z ∈ zs, -9223372036854775808 ≤ z ∧ z ≤ 9223372036854775807) :
  Calls Tryd.prog 12 #[.int .i64 op, .slice A n c, .bool tr] w fun e w' => e = .returned (opV (opF op zs tr)) ∧ Below w.heap.size w w' := by
 have HX := Lib.hid h
 have HL := Lib.hid h.numsF
 have HZ := Lib.hid hz
 obtain ⟨R, hR⟩ : ∃ R, opF op zs tr = R := ⟨_, rfl⟩
 rw [hR]
 have HR := Lib.hid hR
 clear h hz hR
 go_enter Tryd.func12, Tryd.ntmps12
 go_wp2_with fail
 go_loopw [13] (fun u wr => ∃ k : Nat, k ≤ n ∧ u = .int .i64 k ∧ Hid (tr = true → ∀ i z, i < k → zs[i]? = some z → badT z = false) ∧ wr = w) (fun u _ => n - (intOf u).toNat)
 case atStart => exact ⟨0, by omega, rfl, Lib.hid (fun _ i z hi => absurd hi (by omega)), rfl⟩
 case round =>
  obtain ⟨k, hk, rfl, HK, rfl⟩ := hrel
  by_cases hlt : k < n
  ·obtain ⟨b, off, x, rfl, hb, hxk, hcell⟩ := HX.out.numF k hlt
   have hk0 : (0 : Int) ≤ (k : Int) := by omega
   have hkn : (k : Int) < (n : Int) := by omega
   have HXK := Lib.hid hxk
   cases tr
   ·clear hxk
    go_wp2
    go_roundw
    case rel => exact ⟨k + 1, by omega, by go_num, Lib.hid (fun h => by cases h), trivial⟩
    case measure => simp [intOf]; omega
   ·cases hbd : badT x
    ·have hx2 := badT_no hbd
     have HNX : Hid (∀ i z, i < k + 1 → zs[i]? = some z → badT z = false) := Lib.hid (fun i z hi hz => by
      rcases Nat.lt_or_ge i k with h1 | h1
      ·exact HK.out rfl i z h1 hz
      ·obtain rfl : i = k := by omega
       rw [HXK.out] at hz
       obtain rfl := Option.some.inj hz
       exact hbd)
     clear hxk hbd
     rcases hx2 with rfl | rfl
     ·go_wp2
      go_roundw
      case rel => exact ⟨k + 1, by omega, by go_num, Lib.hid (fun _ => HNX.out), trivial⟩
      case measure => simp [intOf]; omega
     ·go_wp2
      go_roundw
      case rel => exact ⟨k + 1, by omega, by go_num, Lib.hid (fun _ => HNX.out), trivial⟩
      case measure => simp [intOf]; omega
    ·have hr : R = (0, false, -1) := by rw [← HR.out]; exact opF_bad hxk hbd
     subst hr
     have hx0 : (x == 0) = false ∧ (x == 1) = false := by
      unfold badT at hbd
      simpa using hbd
     obtain ⟨q0, q1⟩ := hx0
     have n0 : ¬ x = 0 := by simpa using q0
     have n1 : ¬ x = 1 := by simpa using q1
     have b0 : (x != 0) = true := by simpa using n0
     have b1 : (x != 1) = true := by simpa using n1
     clear hxk hbd HR
     go_wp2
     go_ret3
     exact ⟨rfl, Below.refl _ _⟩
  ·obtain rfl : n = k := by omega
   clear hlt hk
   rcases (show n = 1 ∨ n = 2 ∨ (n ≠ 1 ∧ n ≠ 2) by omega) with h1 | h1 | ⟨h1, h2⟩
   ·subst h1
    obtain ⟨b, off, a, rfl, hb, hxk, hcell⟩ := HX.out.numF 0 (by omega)
    obtain rfl : zs = [a] := by
     have := HL.out
     match zs, this with
     | [y], _ => simpa using hxk
    have hg : tr = true → badT a = false := fun h => HK.out h 0 a (by omega) hxk
    have ha := HZ.out a (by simp)
    have hr : op1 op a tr = R := by rw [← HR.out]; exact (opF_one hg).symm
    have hcon := fun w => ofone_any op a tr w ha (fun h => by have := badT_no (hg h); omega)
    rw [hr] at hcon
    obtain ⟨r1, r2, r3⟩ := R
    simp only [opV] at hcon
    have HC := Lib.hid hcon
    simp only [Nat.add_zero] at hcell
    clear hg ha hr hcon hxk HR HZ HK HL HX
    go_wp2_with fail
    refine (HC.out _).mono ?_
    rintro e w1 ⟨rfl, rfl⟩
    go_wp2
    go_ret3
    exact ⟨rfl, Below.refl _ _⟩
   ·subst h1
    obtain ⟨b, off, a, rfl, hb, hxk, hcell⟩ := HX.out.numF 0 (by omega)
    obtain ⟨b', off', a', e', hb', hxk', hcell'⟩ := HX.out.numF 1 (by omega)
    injection e' with e'
    injection e' with e1 e2
    subst e1 e2
    obtain rfl : zs = [a, a'] := by
     have := HL.out
     match zs, this with
     | [y, z], _ => simp at hxk hxk'; rw [hxk, hxk']
    have ha := HZ.out a (by simp)
    have ha' := HZ.out a' (by simp)
    simp only [Nat.add_zero] at hcell
    cases tr
    ·rcases (show (8 ≤ op ∧ op ≤ 12) ∨ (13 ≤ op ∧ op ≤ 18) ∨ (op < 8 ∨ 18 < op) by omega) with ho | ho | ho
     ·have hr : opK op a a' = R := by rw [← HR.out, opF_two, if_pos ho]
      have hcon := fun w => reckoned_any op a a' w ho ha ha'
      rw [hr] at hcon
      obtain ⟨r1, r2, r3⟩ := R
      simp only [opV] at hcon
      have HC := Lib.hid hcon
      obtain ⟨ho1, ho2⟩ := ho
      clear ha ha' hr hcon hxk hxk' HR HZ HK HL HX
      go_wp2_with fail
      go_quiet (first | (go_at_call 27; exact quiet_left (HC.out _)))
      go_wp2
      go_ret3
      exact ⟨rfl, by exact belowBy⟩
     ·have hr : opC op a a' = R := by rw [← HR.out, opF_two, if_neg (by omega), if_pos ho]
      have hcon := fun w => compared_any op a a' w ho
      rw [hr] at hcon
      obtain ⟨r1, r2, r3⟩ := R
      simp only [opV] at hcon
      have HC := Lib.hid hcon
      obtain ⟨ho1, ho2⟩ := ho
      have ho3 : (12 : Int) < op := by omega
      clear ha ha' hr hcon hxk hxk' HR HZ HK HL HX
      go_wp2_with fail
      go_quiet (first | (go_at_call 28; exact quiet_left (HC.out _)))
      go_wp2
      go_ret3
      exact ⟨rfl, by exact belowBy⟩
     ·have hr : R = (0, false, -1) := by rw [← HR.out, opF_two, if_neg (by omega), if_neg (by omega)]
      subst hr
      clear ha ha' hxk hxk' HR HZ HK HL HX
      rcases ho with ho | ho
      ·have ho2 : op < 13 := by omega
       go_wp2
       go_ret3
       exact ⟨rfl, Below.refl _ _⟩
      ·have ho2 : 12 < op := by omega
       go_wp2
       go_ret3
       exact ⟨rfl, Below.refl _ _⟩
    ·have hg := HK.out rfl 0 a (by omega) hxk
     have hg' := HK.out rfl 1 a' (by omega) hxk'
     have hr : opT op a a' = R := by rw [← HR.out]; exact (opF_twoT hg hg').symm
     have hcon := fun w => oftruths_any op a a' w (badT_no hg) (badT_no hg')
     rw [hr] at hcon
     obtain ⟨r1, r2, r3⟩ := R
     simp only [opV] at hcon
     have HC := Lib.hid hcon
     clear ha ha' hr hcon hxk hxk' HR HZ HK HL HX hg hg'
     go_wp2_with fail
     go_quiet (first | (go_at_call 26; exact quiet_left (HC.out _)))
     go_wp2
     go_ret3
     exact ⟨rfl, by exact belowBy⟩
   ·have hr : R = (0, false, -1) := by rw [← HR.out]; exact opF_else (by rw [HL.out]; exact h1) (by rw [HL.out]; exact h2)
    subst hr
    have q1 : ((n : Int) == 1) = false := by simp; omega
    have q2 : ((n : Int) == 2) = false := by simp; omega
    clear HR HZ HK HL HX
    go_wp2
    go_ret3
    exact ⟨rfl, Below.refl _ _⟩

end Go.Proofs.YtahjijdadifkaaaDoor

namespace Go.Proofs.YtahjijdadifkaaaDoor
open Go.RowKit

theorem foldEs_map (F : Int → List Int → Bool → Int × Bool × Int) : ∀ l, foldEs F l = l.map (foldE F)
 | [] => by rw [foldEs]; rfl
 | x :: l => by rw [foldEs, foldEs_map F l]; rfl
theorem foldEs_len (F : Int → List Int → Bool → Int × Bool × Int) (l : List Ex) : (foldEs F l).length = l.length := by rw [foldEs_map, List.length_map]
theorem foldEs_snoc (F : Int → List Int → Bool → Int × Bool × Int) {l : List Ex} {i : Nat} {y : Ex} (h : l[i]? = some y) : foldEs F (l.take (i + 1)) = foldEs F (l.take i) ++ [foldE F y] := by
 rw [foldEs_map, foldEs_map, List.take_add_one, h]
 simp
def valsX (l : List Ex) : List Int := l.map fun s => (constV s).1
def trN (l : List Ex) : Nat := (l.filter fun s => (constV s).2.1).length
theorem valsX_snoc {l : List Ex} {i : Nat} {y : Ex} (h : l[i]? = some y) : valsX (l.take (i + 1)) = valsX (l.take i) ++ [(constV y).1] := by
 unfold valsX
 rw [List.take_add_one, h]
 simp
theorem trN_snoc {l : List Ex} {i : Nat} {y : Ex} (h : l[i]? = some y) : trN (l.take (i + 1)) = trN (l.take i) + (bif (constV y).2.1 then 1 else 0) := by
 unfold trN
 rw [List.take_add_one, h]
 simp only [Option.toList_some, List.filter_append, List.length_append]
 cases hc : (constV y).2.1 <;> simp [hc]
theorem trN_zero {l : List Ex} (h : trN l = 0) : (l.any fun s => (constV s).2.1) = false := by
 unfold trN at h
 have h1 := List.eq_nil_of_length_eq_zero h
 rw [List.filter_eq_nil_iff] at h1
 rw [List.any_eq_false]
 exact h1
theorem trN_pos {l : List Ex} (h : trN l ≠ 0) : (l.any fun s => (constV s).2.1) = true := by
 unfold trN at h
 rw [List.any_eq_true]
 obtain ⟨a, ha⟩ := List.exists_mem_of_length_pos (Nat.pos_of_ne_zero h)
 rw [List.mem_filter] at ha
 exact ⟨a, ha⟩
theorem trN_all {l : List Ex} (h : trN l = l.length) : (l.any fun s => !(constV s).2.1) = false := by
 rw [List.any_eq_false]
 intro s hs
 have := List.length_filter_eq_length_iff.1 h s hs
 simp [this]
theorem trN_mixed {l : List Ex} (h : trN l ≠ l.length) : (l.any fun s => !(constV s).2.1) = true := by
 cases hc : (l.any fun s => !(constV s).2.1)
 ·exfalso
  apply h
  unfold trN
  rw [List.length_filter_eq_length_iff]
  intro s hs
  have := List.any_eq_false.1 hc s hs
  simpa using this
 ·rfl
section
variable {F : Int → List Int → Bool → Int × Bool × Int} {op n ln : Int} {nm fd : ByteArray} {ys : List Ex}
theorem topX_low (h : op < 6) : topX F op n nm fd ys ln = .mk op n nm fd ys ln := by unfold topX; simp only; rw [if_pos h]
theorem topX_const (h : (constV (.mk op n nm fd ys ln)).2.2 = true) : topX F op n nm fd ys ln = .mk op n nm fd ys ln := by
 unfold topX; simp only
 split
 ·rfl
 ·first | rfl | rw [if_pos h]
theorem topX_not {j : Nat} {y : Ex} (hy : ys[j]? = some y) (h : (constV y).2.2 = false) : topX F op n nm fd ys ln = .mk op n nm fd ys ln := by
 unfold topX; simp only
 have : (ys.any fun s => !(constV s).2.2) = true := by rw [List.any_eq_true]; exact ⟨y, List.mem_of_getElem? hy, by rw [h]; rfl⟩
 split
 ·rfl
 split
 ·rfl
 ·first | rfl | rw [if_pos this]
theorem topX_mixed (h : trN ys ≠ 0) (h2 : trN ys ≠ ys.length) : topX F op n nm fd ys ln = .mk op n nm fd ys ln := by
 unfold topX; simp only
 split
 ·rfl
 split
 ·rfl
 split
 ·rfl
 ·first | rfl | rw [if_pos ⟨trN_pos h, trN_mixed h2⟩]
theorem topX_all (h6 : ¬ op < 6) (hc : ¬ (constV (.mk op n nm fd ys ln)).2.2 = true) (hA : ∀ y ∈ ys, (constV y).2.2 = true) (tr : Bool) (ht : tr = true ∧ trN ys ≠ 0 ∧ trN ys = ys.length ∨ tr = false ∧ trN ys = 0) :
  topX F op n nm fd ys ln = if (F op (valsX ys) tr).2.2 ≠ 0 ∨ ((F op (valsX ys) tr).2.1 = false ∧ (F op (valsX ys) tr).1 = -9223372036854775808) then .mk op n nm fd ys ln else madeX (F op (valsX ys) tr).1 (F op (valsX ys) tr).2.1 ln := by
 unfold topX; simp only
 rw [if_neg h6, if_neg hc, if_neg (by
  intro h
  obtain ⟨y, hy, h⟩ := List.any_eq_true.1 h
  rw [hA y hy] at h
  cases h)]
 have e : (ys.any fun s => (constV s).2.1) = tr := by
  rcases ht with ⟨rfl, h1, h2⟩ | ⟨rfl, h1⟩
  ·exact trN_pos h1
  ·exact trN_zero h1
 rw [e, if_neg (by
  rintro ⟨h1, h2⟩
  rcases ht with ⟨rfl, h3, h4⟩ | ⟨rfl, h3⟩
  ·rw [trN_all h4] at h2; cases h2
  ·cases h1)]
 rfl
end
theorem wrap_I64 (n : Int) : I64 (IntKind.i64.wrap n) := by
 rw [IntKind.wrap_i64]
 unfold I64
 omega
theorem constV_rng {x : Ex} (h : I64 x.n) (hs : ∀ y ∈ x.sub, I64 y.n) : I64 (constV x).1 := by
 unfold constV
 split
 ·exact h
 split
 ·exact h
 split
 ·exact wrap_I64 _
 ·exact ⟨by decide, by decide⟩

theorem tvI_rng (b : Bool) : I64 (tvI b) := by cases b <;> exact ⟨by decide, by decide⟩
theorem fitV_rng (x : Int) : I64 (fitV x) := by
 unfold fitV fitB
 by_cases h : -9223372036854775808 ≤ x ∧ x ≤ 9223372036854775807
 ·rw [if_pos (decide_eq_true h)]
  exact h
 ·rw [if_neg (by rw [decide_eq_false h]; decide)]
  exact ⟨by decide, by decide⟩
theorem zero_I64 : I64 0 := ⟨by decide, by decide⟩
theorem divV_rng (a b : Int) (ha : I64 a) : I64 (divV a b) := by
 unfold divV
 by_cases h : divE a b = 0
 ·rw [if_pos h]
  unfold divE at h
  by_cases hb : b = 0
  ·rw [if_pos hb] at h
   cases h
  ·rw [if_neg hb] at h
   by_cases hm : a = -9223372036854775808 ∧ b = -1
   ·rw [if_pos hm] at h
    cases h
   ·exact tdiv_bd a b ha hb hm
 ·rw [if_neg h]
  exact zero_I64
theorem modV_rng (a b : Int) (ha : I64 a) : I64 (modV a b) := by
 unfold modV
 split
 ·exact zero_I64
 ·exact tmod_bd a b ha
theorem opF_rng (op : Int) (zs : List Int) (tr : Bool) (h : ∀ z ∈ zs, I64 z) : I64 (opF op zs tr).1 := by
 unfold opF
 by_cases hb : (tr && zs.any badT) = true
 ·rw [if_pos hb]
  exact zero_I64
 rw [if_neg hb]
 match zs, h, hb with
 | [], _, _ => exact zero_I64
 | [a], h, hb =>
  show I64 (op1 op a tr).1
  unfold op1
  split
  ·exact fitV_rng _
  split
  ·rename_i h7
   rw [h7.2] at hb
   rcases badT_no (z := a) (by simpa using hb) with rfl | rfl <;> exact ⟨by decide, by decide⟩
  ·exact zero_I64
 | [a, b], h, hb =>
  show I64 (if tr = true then opT op a b else if 8 ≤ op ∧ op ≤ 12 then opK op a b else if 13 ≤ op ∧ op ≤ 18 then opC op a b else (0, false, -1)).1
  have ha := h a (by simp)
  split
  ·unfold opT
   split
   ·exact tvI_rng _
   split
   ·exact tvI_rng _
   split
   ·exact tvI_rng _
   split
   ·exact tvI_rng _
   ·exact zero_I64
  split
  ·unfold opK
   split
   ·exact fitV_rng _
   split
   ·exact fitV_rng _
   split
   ·exact fitV_rng _
   split
   ·exact divV_rng _ _ ha
   ·exact modV_rng _ _ ha
  split
  ·exact tvI_rng _
  ·exact zero_I64
 | a :: b :: c :: l, _, _ => exact zero_I64

end Go.Proofs.YtahjijdadifkaaaDoor

namespace Go.Proofs.YtahjijdadifkaaaDoor
open Go.RowKit
attribute [local go_sem] ite_max ite_min vite_max vite_min ext_cell ext_frozen





set_option maxRecDepth 100000 in
theorem fexpr_leaf (k ln : Int) (s1 s2 : ByteArray) (w : World) :
  Calls Tryd.prog 11 #[.agg #[.int .i64 1, .int .i64 k, .string s1, .string s2, .slice none 0 0, .int .i64 ln]] w fun e w' => e = .returned (.agg #[.int .i64 1, .int .i64 k, .string s1, .string s2, .slice none 0 0, .int .i64 ln]) ∧ Below w.heap.size w w' := by
 go_enter Tryd.func11, Tryd.ntmps11
 go_wp2_with fail
 refine wp_name fun W hW => ?_
 have c0 : W.cell? ⟨w.heap.size, 0, none⟩ = some (.int .i64 1) := by rw [hW.out]; go_simp
 have c1 : W.cell? ⟨w.heap.size, 1, none⟩ = some (.int .i64 k) := by rw [hW.out]; go_simp
 have c2 : W.cell? ⟨w.heap.size, 2, none⟩ = some (.string s1) := by rw [hW.out]; go_simp
 have c3 : W.cell? ⟨w.heap.size, 3, none⟩ = some (.string s2) := by rw [hW.out]; go_simp
 have c4 : W.cell? ⟨w.heap.size, 4, none⟩ = some (.slice none 0 0) := by rw [hW.out]; go_simp
 have c5 : W.cell? ⟨w.heap.size, 5, none⟩ = some (.int .i64 ln) := by rw [hW.out]; go_simp
 have cf : ∀ o, W.frozen? ⟨w.heap.size, o, none⟩ = false := fun o => by rw [hW.out]; go_simp
 have z0 : (W.cell? ⟨w.heap.size + 1, 0, none⟩).isSome = true := by rw [hW.out]; go_simp
 have z1 : (W.cell? ⟨w.heap.size + 1, 1, none⟩).isSome = true := by rw [hW.out]; go_simp
 have z2 : (W.cell? ⟨w.heap.size + 1, 2, none⟩).isSome = true := by rw [hW.out]; go_simp
 have z3 : (W.cell? ⟨w.heap.size + 1, 3, none⟩).isSome = true := by rw [hW.out]; go_simp
 have z4 : (W.cell? ⟨w.heap.size + 1, 4, none⟩).isSome = true := by rw [hW.out]; go_simp
 have z5 : (W.cell? ⟨w.heap.size + 1, 5, none⟩).isSome = true := by rw [hW.out]; go_simp
 have zf : ∀ o, W.frozen? ⟨w.heap.size + 1, o, none⟩ = false := fun o => by rw [hW.out]; go_simp
 have hB : Below w.heap.size w W := by rw [hW.out]; exact belowBy
 obtain ⟨y0, h0⟩ := Option.isSome_iff_exists.1 z0
 obtain ⟨y1, h1⟩ := Option.isSome_iff_exists.1 z1
 obtain ⟨y2, h2⟩ := Option.isSome_iff_exists.1 z2
 obtain ⟨y3, h3⟩ := Option.isSome_iff_exists.1 z3
 obtain ⟨y4, h4⟩ := Option.isSome_iff_exists.1 z4
 obtain ⟨y5, h5⟩ := Option.isSome_iff_exists.1 z5
 clear hW z0 z1 z2 z3 z4 z5
 go_loopw [3, 22] (fun v u wr => v = .slice none 0 0 ∧ u = .int .i64 0 ∧ wr = W) (fun _ _ _ => 0)
 case atStart => exact ⟨rfl, rfl, rfl⟩
 case round =>
  obtain ⟨rfl, rfl, rfl⟩ := hrel
  go_wp2
  refine bodyPost_ret (v := .agg #[.int .i64 1, .int .i64 k, .string s1, .string s2, .slice none 0 0, .int .i64 ln]) ?_ rfl ⟨rfl, ?_⟩
  ·simp [results, Tryd.results11, go_sem, h0, h1, h2, h3, h4, h5, zf]
  ·exact belowBy


set_option maxRecDepth 100000 in
theorem fconst_leaf (k ln : Int) (s1 s2 : ByteArray) (w : World) :
  Calls Tryd.prog 22 #[.agg #[.int .i64 1, .int .i64 k, .string s1, .string s2, .slice none 0 0, .int .i64 ln]] w fun e w' => e = .returned (.tuple #[.int .i64 k, .bool false, .bool true]) ∧ Below w.heap.size w w' := by
 go_enter Tryd.func22, Tryd.ntmps22
 go_wp2
 go_ret3
 exact ⟨rfl, by exact belowBy⟩

set_option maxRecDepth 100000 in
theorem fconst_mul (k ln : Int) (s1 s2 : ByteArray) (A : Option Addr) (n c : Nat) (w : World) :
  Calls Tryd.prog 22 #[.agg #[.int .i64 10, .int .i64 k, .string s1, .string s2, .slice A n c, .int .i64 ln]] w fun e w' => e = .returned (.tuple #[.int .i64 0, .bool false, .bool false]) ∧ Below w.heap.size w w' := by
 go_enter Tryd.func22, Tryd.ntmps22
 go_wp2
 go_ret3
 exact ⟨rfl, by exact belowBy⟩

set_option maxRecDepth 100000 in
theorem fmade_num (n ln : Int) (w : World) (hn : 0 ≤ n) :
  Calls Tryd.prog 24 #[.int .i64 n, .bool false, .int .i64 ln] w fun e w' => (∃ s1 s2 : ByteArray, e = .returned (.agg #[.int .i64 1, .int .i64 n, .string s1, .string s2, .slice none 0 0, .int .i64 ln])) ∧ Below w.heap.size w w' := by
 go_enter Tryd.func24, Tryd.ntmps24
 go_wp2
 exact bodyPost_ret (v := .agg #[.int .i64 1, .int .i64 n, .string ⟨#[]⟩, .string ⟨#[]⟩, .slice none 0 0, .int .i64 ln]) (by simp [results, Tryd.results24, go_sem]) rfl ⟨⟨_, _, rfl⟩, by exact belowBy⟩

end Go.Proofs.YtahjijdadifkaaaDoor
