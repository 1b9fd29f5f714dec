/- Layer 21, plain: what is counted while an expression is folded. -/
import Derived.Test.YtcamegfnhbbaeaaTreeX0
import Derived.Test.YtcamegfnhbbaeaaM08
import Derived.Test.YtcamegfnhbbaeaaM25
namespace Go.Proofs.Ytcamegfnhbbaeaa
open Go.RowKit
set_option linter.unusedVariables false
set_option linter.unusedSimpArgs false

theorem foldEs_map (F : Int → List Int → Bool → Int × Bool × Int) : ∀ l, foldEs F l = l.map (foldE F)
  | [] => by rw [foldEs]; rfl
  | x :: l => by rw [foldEs, foldEs_map F l]; rfl
theorem foldEs_len (F : Int → List Int → Bool → Int × Bool × Int) (l : List Ex) : (foldEs F l).length = l.length := by rw [foldEs_map, List.length_map]
theorem foldEs_snoc (F : Int → List Int → Bool → Int × Bool × Int) {l : List Ex} {i : Nat} {y : Ex} (h : l[i]? = some y) : foldEs F (l.take (i + 1)) = foldEs F (l.take i) ++ [foldE F y] := by
  rw [foldEs_map, foldEs_map, List.take_add_one, h]
  simp
/-- the constants' values -/
def valsX (l : List Ex) : List Int := l.map fun s => (constV s).1
/-- how many are truths -/
def trN (l : List Ex) : Nat := (l.filter fun s => (constV s).2.1).length
theorem valsX_snoc {l : List Ex} {i : Nat} {y : Ex} (h : l[i]? = some y) : valsX (l.take (i + 1)) = valsX (l.take i) ++ [(constV y).1] := by
  unfold valsX
  rw [List.take_add_one, h]
  simp
theorem trN_snoc {l : List Ex} {i : Nat} {y : Ex} (h : l[i]? = some y) : trN (l.take (i + 1)) = trN (l.take i) + (bif (constV y).2.1 then 1 else 0) := by
  unfold trN
  rw [List.take_add_one, h]
  simp only [Option.toList_some, List.filter_append, List.length_append]
  cases hc : (constV y).2.1 <;> simp [hc]
theorem trN_le (l : List Ex) : trN l ≤ l.length := List.length_filter_le _ _
theorem trN_zero {l : List Ex} (h : trN l = 0) : (l.any fun s => (constV s).2.1) = false := by
  unfold trN at h
  have h1 := List.eq_nil_of_length_eq_zero h
  rw [List.filter_eq_nil_iff] at h1
  rw [List.any_eq_false]
  exact h1
theorem trN_pos {l : List Ex} (h : trN l ≠ 0) : (l.any fun s => (constV s).2.1) = true := by
  unfold trN at h
  rw [List.any_eq_true]
  obtain ⟨a, ha⟩ := List.exists_mem_of_length_pos (Nat.pos_of_ne_zero h)
  rw [List.mem_filter] at ha
  exact ⟨a, ha⟩
theorem trN_all {l : List Ex} (h : trN l = l.length) : (l.any fun s => !(constV s).2.1) = false := by
  rw [List.any_eq_false]
  intro s hs
  have := List.length_filter_eq_length_iff.1 h s hs
  simp [this]
theorem trN_mixed {l : List Ex} (h : trN l ≠ l.length) : (l.any fun s => !(constV s).2.1) = true := by
  cases hc : (l.any fun s => !(constV s).2.1)
  · exfalso
    apply h
    unfold trN
    rw [List.length_filter_eq_length_iff]
    intro s hs
    have := List.any_eq_false.1 hc s hs
    simpa using this
  · rfl
section
variable {F : Int → List Int → Bool → Int × Bool × Int} {op n ln : Int} {nm fd : ByteArray} {ys : List Ex}
theorem topX_low (h : op < 6) : topX F op n nm fd ys ln = .mk op n nm fd ys ln := by unfold topX; simp only; rw [if_pos h]
theorem topX_const (h : (constV (.mk op n nm fd ys ln)).2.2 = true) : topX F op n nm fd ys ln = .mk op n nm fd ys ln := by
  unfold topX; simp only
  split
  · rfl
  · first | rfl | rw [if_pos h]
theorem topX_not {j : Nat} {y : Ex} (hy : ys[j]? = some y) (h : (constV y).2.2 = false) : topX F op n nm fd ys ln = .mk op n nm fd ys ln := by
  unfold topX; simp only
  have : (ys.any fun s => !(constV s).2.2) = true := by rw [List.any_eq_true]; exact ⟨y, List.mem_of_getElem? hy, by rw [h]; rfl⟩
  split
  · rfl
  split
  · rfl
  · first | rfl | rw [if_pos this]
theorem topX_mixed (h : trN ys ≠ 0) (h2 : trN ys ≠ ys.length) : topX F op n nm fd ys ln = .mk op n nm fd ys ln := by
  unfold topX; simp only
  split
  · rfl
  split
  · rfl
  split
  · rfl
  · first | rfl | rw [if_pos ⟨trN_pos h, trN_mixed h2⟩]
theorem topX_all (h6 : ¬ op < 6) (hc : ¬ (constV (.mk op n nm fd ys ln)).2.2 = true) (hA : ∀ y ∈ ys, (constV y).2.2 = true) (tr : Bool) (ht : tr = true ∧ trN ys ≠ 0 ∧ trN ys = ys.length ∨ tr = false ∧ trN ys = 0) :
    topX F op n nm fd ys ln = if (F op (valsX ys) tr).2.2 ≠ 0 ∨ ((F op (valsX ys) tr).2.1 = false ∧ (F op (valsX ys) tr).1 = -9223372036854775808) then .mk op n nm fd ys ln else madeX (F op (valsX ys) tr).1 (F op (valsX ys) tr).2.1 ln := by
  unfold topX; simp only
  rw [if_neg h6, if_neg hc, if_neg (by
    intro h
    obtain ⟨y, hy, h⟩ := List.any_eq_true.1 h
    rw [hA y hy] at h
    cases h)]
  have e : (ys.any fun s => (constV s).2.1) = tr := by
    rcases ht with ⟨rfl, h1, h2⟩ | ⟨rfl, h1⟩
    · exact trN_pos h1
    · exact trN_zero h1
  rw [e, if_neg (by
    rintro ⟨h1, h2⟩
    rcases ht with ⟨rfl, h3, h4⟩ | ⟨rfl, h3⟩
    · rw [trN_all h4] at h2; cases h2
    · cases h1)]
  rfl
end
theorem wrap_I64 (n : Int) : I64 (IntKind.i64.wrap n) := by
  rw [IntKind.wrap_i64]
  unfold I64
  omega
theorem constV_rng {x : Ex} (h : I64 x.n) (hs : ∀ y ∈ x.sub, I64 y.n) : I64 (constV x).1 := by
  unfold constV
  split
  · exact h
  split
  · exact h
  split
  · exact wrap_I64 _
  · exact ⟨by decide, by decide⟩

theorem tvI_rng (b : Bool) : I64 (tvI b) := by cases b <;> exact ⟨by decide, by decide⟩
theorem fitV_rng (x : Int) : I64 (fitV x) := by
  unfold fitV fitB
  by_cases h : -9223372036854775808 ≤ x ∧ x ≤ 9223372036854775807
  · rw [if_pos (decide_eq_true h)]
    exact h
  · rw [if_neg (by rw [decide_eq_false h]; decide)]
    exact ⟨by decide, by decide⟩
theorem zero_I64 : I64 0 := ⟨by decide, by decide⟩
theorem divV_rng (a b : Int) (ha : I64 a) : I64 (divV a b) := by
  unfold divV
  by_cases h : divE a b = 0
  · rw [if_pos h]
    unfold divE at h
    by_cases hb : b = 0
    · rw [if_pos hb] at h
      cases h
    · rw [if_neg hb] at h
      by_cases hm : a = -9223372036854775808 ∧ b = -1
      · rw [if_pos hm] at h
        cases h
      · exact tdiv_bd a b ha hb hm
  · rw [if_neg h]
    exact zero_I64
theorem modV_rng (a b : Int) (ha : I64 a) : I64 (modV a b) := by
  unfold modV
  split
  · exact zero_I64
  · exact tmod_bd a b ha
theorem opF_rng (op : Int) (zs : List Int) (tr : Bool) (h : ∀ z ∈ zs, I64 z) : I64 (opF op zs tr).1 := by
  unfold opF
  by_cases hb : (tr && zs.any badT) = true
  · rw [if_pos hb]
    exact zero_I64
  rw [if_neg hb]
  match zs, h, hb with
  | [], _, _ => exact zero_I64
  | [a], h, hb =>
    show I64 (op1 op a tr).1
    unfold op1
    split
    · exact fitV_rng _
    split
    · rename_i h7
      rw [h7.2] at hb
      rcases badT_no (z := a) (by simpa using hb) with rfl | rfl <;> exact ⟨by decide, by decide⟩
    · exact zero_I64
  | [a, b], h, hb =>
    show I64 (if tr = true then opT op a b else if 8 ≤ op ∧ op ≤ 12 then opK op a b else if 13 ≤ op ∧ op ≤ 18 then opC op a b else (0, false, -1)).1
    have ha := h a (by simp)
    split
    · unfold opT
      split
      · exact tvI_rng _
      split
      · exact tvI_rng _
      split
      · exact tvI_rng _
      split
      · exact tvI_rng _
      · exact zero_I64
    split
    · unfold opK
      split
      · exact fitV_rng _
      split
      · exact fitV_rng _
      split
      · exact fitV_rng _
      split
      · exact divV_rng _ _ ha
      · exact modV_rng _ _ ha
    split
    · exact tvI_rng _
    · exact zero_I64
  | a :: b :: c :: l, _, _ => exact zero_I64

end Go.Proofs.Ytcamegfnhbbaeaa
