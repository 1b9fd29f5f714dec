/- Layer 22, in plain Lean: where variables stand. -/
import Derived.Test.YtknnhnefbbjcdaaDoorM41
namespace Go.Proofs.YtknnhnefbbjcdaaDoor
set_option linter.unusedVariables false
set_option linter.unusedSimpArgs false

def cellsN (v : VarS) : Nat := if v.arr = true then (v.hi - v.lo + 1).toNat else if 2 < v.type then rcount v.type else 1
def sumN : List VarS → Nat
 | [] => 0
 | v :: l => cellsN v + sumN l
def offsN (a : Nat) : List VarS → List Int
 | [] => []
 | v :: l => (a : Int) :: offsN (a + cellsN v) l
def firstV (v : VarS) : List Int := if v.arr = false ∧ v.type ≤ 2 then [v.init] else List.replicate (cellsN v) 0
def firstsV (l : List VarS) : List Int := l.flatMap firstV
def atV (nm : ByteArray) (a : Nat) : List VarS → Option (Nat × VarS)
 | [] => none
 | v :: l => if sameN nm v = true then some (a, v) else atV nm (a + cellsN v) l
theorem firstV_len (v : VarS) : (firstV v).length = cellsN v := by
 unfold firstV
 split
 ·rename_i h
  unfold cellsN
  rw [if_neg (by rw [h.1]; decide), if_neg (by omega)]
  rfl
 ·simp
theorem firstsV_len : ∀ l, (firstsV l).length = sumN l
 | [] => rfl
 | v :: l => by
  have := firstsV_len l
  unfold firstsV at this ⊢
  rw [List.flatMap_cons, List.length_append, firstV_len, this]
  rfl
theorem sumN_snoc (l : List VarS) (v : VarS) : sumN (l ++ [v]) = sumN l + cellsN v := by
 induction l with
 | nil => simp [sumN]
 | cons x l ih => simp [sumN, ih]; omega
theorem sumN_take {l : List VarS} {i : Nat} {v : VarS} (h : l[i]? = some v) : sumN (l.take (i + 1)) = sumN (l.take i) + cellsN v := by
 rw [List.take_add_one, h]
 exact sumN_snoc _ _
theorem sumN_mono {l : List VarS} {i : Nat} : sumN (l.take i) ≤ sumN l := by
 induction l generalizing i with
 | nil => simp [sumN]
 | cons x l ih =>
  cases i with
  | zero => simp [sumN]
  | succ i => simp only [List.take_succ_cons, sumN]; have := ih (i := i); omega
theorem offsN_snoc (l : List VarS) (v : VarS) : ∀ a, offsN a (l ++ [v]) = offsN a l ++ [((a + sumN l : Nat) : Int)] := by
 induction l with
 | nil => intro a; simp [offsN, sumN]
 | cons x l ih => intro a; simp only [List.cons_append, offsN, ih, sumN]; rw [show a + cellsN x + sumN l = a + (cellsN x + sumN l) by omega]
theorem offsN_take {l : List VarS} {i : Nat} {v : VarS} (h : l[i]? = some v) : offsN 0 (l.take (i + 1)) = offsN 0 (l.take i) ++ [((sumN (l.take i) : Nat) : Int)] := by
 rw [List.take_add_one, h]
 have := offsN_snoc (l.take i) v 0
 rw [Nat.zero_add] at this
 exact this
theorem offsN_len : ∀ (l : List VarS) a, (offsN a l).length = l.length
 | [], _ => rfl
 | v :: l, a => by simp [offsN, offsN_len l]
theorem offsN_get : ∀ (l : List VarS) (a i : Nat), i < l.length → (offsN a l)[i]? = some ((a + sumN (l.take i) : Nat) : Int)
 | [], _, _, h => by simp at h
 | v :: l, a, 0, _ => by simp [offsN, sumN]
 | v :: l, a, i + 1, h => by
  simp only [offsN, List.getElem?_cons_succ, List.take_succ_cons, sumN]
  rw [offsN_get l _ i (by simpa using h), show a + cellsN v + sumN (l.take i) = a + (cellsN v + sumN (l.take i)) by omega]
theorem firstsV_take {l : List VarS} {i : Nat} {v : VarS} (h : l[i]? = some v) : firstsV (l.take (i + 1)) = firstsV (l.take i) ++ firstV v := by
 rw [List.take_add_one, h]
 unfold firstsV
 rw [List.flatMap_append]
 simp
theorem atV_some {nm : ByteArray} {v : VarS} (hs : sameN nm v = true) : ∀ (l : List VarS) (a i : Nat), l[i]? = some v → (∀ (j : Nat) (x : VarS), j < i → l[j]? = some x → sameN nm x = false) → atV nm a l = some (a + sumN (l.take i), v)
 | [], _, _, h, _ => by simp at h
 | x :: l, a, 0, h, _ => by
  simp at h
  subst h
  simp [atV, hs, sumN]
 | x :: l, a, i + 1, h, hn => by
  have h0 := hn 0 x (by omega) rfl
  rw [atV, if_neg (by rw [h0]; decide), atV_some hs l _ i (by simpa using h) (fun j y hj hy => hn (j + 1) y (by omega) (by simpa using hy))]
  simp only [List.take_succ_cons, sumN]
  rw [show a + cellsN x + sumN (l.take i) = a + (cellsN x + sumN (l.take i)) by omega]
theorem atV_none {nm : ByteArray} : ∀ (l : List VarS) (a : Nat), (∀ (j : Nat) (x : VarS), l[j]? = some x → sameN nm x = false) → atV nm a l = none
 | [], _, _ => rfl
 | x :: l, a, hn => by
  rw [atV, if_neg (by rw [hn 0 x rfl]; decide), atV_none l _ (fun j y hy => hn (j + 1) y (by simpa using hy))]
def DiffN (vs : List VarS) : Prop := ∀ i v, vs[i]? = some v → findV (vs.take i) v.name = none
theorem DiffN.at {vs : List VarS} (h : DiffN vs) {i : Nat} {v : VarS} (hv : vs[i]? = some v) : ∀ j x, j < i → vs[j]? = some x → sameN v.name x = false := by
 intro j x hj hx
 have h1 := h i v hv
 unfold findV at h1
 rw [List.find?_eq_none] at h1
 have := h1 x (List.mem_of_getElem? (i := j) (by rw [List.getElem?_take_of_lt hj]; exact hx))
 simpa using this
theorem DiffN.own {vs : List VarS} (h : DiffN vs) {i : Nat} {v : VarS} (hv : vs[i]? = some v) : atV v.name 0 vs = some (sumN (vs.take i), v) := by
 have := atV_some (nm := v.name) (v := v) (by simp [sameN]) vs 0 i hv (h.at hv)
 rwa [Nat.zero_add] at this

end Go.Proofs.YtknnhnefbbjcdaaDoor
