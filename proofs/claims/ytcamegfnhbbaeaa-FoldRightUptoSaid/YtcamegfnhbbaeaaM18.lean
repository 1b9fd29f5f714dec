/- Merged: Layer 19, the reference: a statement's text, in plain Lean. Layer 19, the reference: a statement's text is short. -/
import Derived.Test.YtcamegfnhbbaeaaM24
import Derived.Test.YtcamegfnhbbaeaaTreeK0
namespace Go.Proofs.Ytcamegfnhbbaeaa
open Go.RowKit
set_option linter.unusedVariables false
set_option linter.unusedSimpArgs false

def bE : ByteArray := ⟨#[]⟩
def atB (l : List ByteArray) (i : Nat) : ByteArray := l[i]?.getD bE
def sumB : List ByteArray → Nat
  | [] => 0
  | b :: l => b.size + sumB l
def sumP (l : List ByteArray) : Nat → Nat
  | 0 => 0
  | i + 1 => sumP l i + (atB l i).size
theorem sumP_cons (b : ByteArray) (l : List ByteArray) : ∀ i, sumP (b :: l) (i + 1) = b.size + sumP l i
  | 0 => by simp [sumP, atB]
  | i + 1 => by
    rw [sumP, sumP_cons b l i]
    show _ + (atB (b :: l) (i + 1)).size = b.size + (sumP l i + (atB l i).size)
    have : atB (b :: l) (i + 1) = atB l i := by simp [atB]
    rw [this]
    omega
theorem sumP_le : ∀ (l : List ByteArray) (i : Nat), sumP l i ≤ sumB l
  | _, 0 => Nat.zero_le _
  | [], i + 1 => by
    have := sumP_le [] i
    simp [sumP, atB, bE, sumB] at this ⊢
    exact ⟨this, rfl⟩
  | b :: l, i + 1 => by
    rw [sumP_cons]
    have := sumP_le l i
    show b.size + _ ≤ b.size + sumB l
    omega

def ifS (cs bs : List ByteArray) : Nat → ByteArray
  | 0 => bE
  | i + 1 => ifS cs bs i ++ ((((if i = 0 then (⟨#[73, 70, 32]⟩ : ByteArray) else ⟨#[69, 76, 83, 73, 70, 32]⟩) ++ atB cs i) ++ ⟨#[32, 84, 72, 69, 78, 10]⟩) ++ atB bs i)
def elseS (s : ByteArray) (bs : List ByteArray) (n : Nat) : ByteArray := if n < bs.length then s ++ ((⟨#[69, 76, 83, 69, 10]⟩ : ByteArray) ++ atB bs n) else s
def labS (l : List Int) : Nat → ByteArray → ByteArray
  | 0, s => s
  | j + 1, s =>
    let a := labS l j s
    let a1 := if 0 < j then a ++ ⟨#[44, 32]⟩ else a
    let a2 := a1 ++ numS (l[2 * j]?.getD 0)
    if l[2 * j]?.getD 0 ≠ l[2 * j + 1]?.getD 0 then a2 ++ ((⟨#[46, 46]⟩ : ByteArray) ++ numS (l[2 * j + 1]?.getD 0)) else a2
def caseS (v : ByteArray) (ls : List (List Int)) (bs : List ByteArray) : Nat → ByteArray
  | 0 => ((⟨#[67, 65, 83, 69, 32]⟩ : ByteArray) ++ v) ++ ⟨#[32, 79, 70, 10]⟩
  | i + 1 => labS (ls[i]?.getD []) ((ls[i]?.getD []).length / 2) (caseS v ls bs i) ++ ((⟨#[58, 10]⟩ : ByteArray) ++ atB bs i)
def callS (fs cs : List ByteArray) : Nat → ByteArray
  | 0 => bE
  | i + 1 => (if 0 < i then callS fs cs i ++ ⟨#[44, 32]⟩ else callS fs cs i) ++ ((atB fs i ++ ⟨#[32, 58, 61, 32]⟩) ++ atB cs i)
def topR (op : Int) (nm d v : ByteArray) (cs : List ByteArray) (ls : List (List Int)) (fs bs : List ByteArray) : ByteArray :=
  if op = 1 then ((d ++ ⟨#[32, 58, 61, 32]⟩) ++ v) ++ ⟨#[59, 10]⟩
  else if op = 2 then elseS (ifS cs bs cs.length) bs cs.length ++ ⟨#[69, 78, 68, 95, 73, 70, 59, 10]⟩
  else if op = 3 then elseS (caseS v ls bs ls.length) bs ls.length ++ ⟨#[69, 78, 68, 95, 67, 65, 83, 69, 59, 10]⟩
  else if op = 4 then (((((((((⟨#[70, 79, 82, 32]⟩ : ByteArray) ++ nm) ++ ⟨#[32, 58, 61, 32]⟩) ++ atB cs 0) ++ ⟨#[32, 84, 79, 32]⟩) ++ atB cs 1) ++ ⟨#[32, 66, 89, 32]⟩) ++ atB cs 2) ++ ⟨#[32, 68, 79, 10]⟩) ++ atB bs 0 ++ ⟨#[69, 78, 68, 95, 70, 79, 82, 59, 10]⟩
  else if op = 5 then ((((⟨#[87, 72, 73, 76, 69, 32]⟩ : ByteArray) ++ v) ++ ⟨#[32, 68, 79, 10]⟩) ++ atB bs 0) ++ ⟨#[69, 78, 68, 95, 87, 72, 73, 76, 69, 59, 10]⟩
  else if op = 6 then ((((⟨#[82, 69, 80, 69, 65, 84, 10]⟩ : ByteArray) ++ atB bs 0) ++ ⟨#[85, 78, 84, 73, 76, 32]⟩) ++ v) ++ ⟨#[32, 69, 78, 68, 95, 82, 69, 80, 69, 65, 84, 59, 10]⟩
  else if op = 7 then ⟨#[69, 88, 73, 84, 59, 10]⟩ else if op = 8 then ⟨#[82, 69, 84, 85, 82, 78, 59, 10]⟩
  else ((nm ++ ⟨#[40]⟩) ++ callS fs cs fs.length) ++ ⟨#[41, 59, 10]⟩
mutual
/-- a statement's text -/
def rowS : Stm → ByteArray
  | .mk op nm dst src conds labels fields blocks _ => topR op nm (exprS dst) (exprS src) (exprsS conds) labels fields (blocksS blocks)
def rowsS : List Stm → ByteArray
  | [] => bE
  | s :: l => rowS s ++ rowsS l
def blocksS : List (List Stm) → List ByteArray
  | [] => []
  | b :: l => rowsS b :: blocksS l
end
def labN : List (List Int) → Nat
  | [] => 0
  | l :: r => 1 + l.length + labN r
mutual
/-- how many parts a statement has -/
def nodesS : Stm → Nat
  | .mk _ _ dst src conds labels fields blocks _ => 1 + nodesE dst + nodesE src + nodesEs conds + labN labels + fields.length + nodesBs blocks
def nodesSs : List Stm → Nat
  | [] => 0
  | s :: l => nodesS s + nodesSs l
def nodesBs : List (List Stm) → Nat
  | [] => 0
  | b :: l => 1 + nodesSs b + nodesBs l
end
theorem lits : (⟨#[73, 70, 32]⟩ : ByteArray).size = 3 ∧ (⟨#[69, 76, 83, 73, 70, 32]⟩ : ByteArray).size = 6 ∧ (⟨#[32, 84, 72, 69, 78, 10]⟩ : ByteArray).size = 6 ∧ (⟨#[69, 76, 83, 69, 10]⟩ : ByteArray).size = 5 ∧ (⟨#[44, 32]⟩ : ByteArray).size = 2 ∧ (⟨#[46, 46]⟩ : ByteArray).size = 2 ∧ (⟨#[67, 65, 83, 69, 32]⟩ : ByteArray).size = 5 ∧ (⟨#[32, 79, 70, 10]⟩ : ByteArray).size = 4 ∧ (⟨#[58, 10]⟩ : ByteArray).size = 2 ∧ (⟨#[32, 58, 61, 32]⟩ : ByteArray).size = 4 ∧ (⟨#[59, 10]⟩ : ByteArray).size = 2 ∧ bE.size = 0 := by decide
theorem ifS_size (cs bs : List ByteArray) : ∀ i, (ifS cs bs i).size ≤ 12 * i + sumP cs i + sumP bs i
  | 0 => by simp [ifS, lits]
  | i + 1 => by
    have := ifS_size cs bs i
    obtain ⟨l1, l2, l3, l4, l5, l6, l7, l8, l9, l10, l11, l12⟩ := lits
    simp only [ifS, sumP, ByteArray.size_append]
    split <;> omega
theorem elseS_size (s : ByteArray) (bs : List ByteArray) (n : Nat) : (elseS s bs n).size ≤ s.size + 5 + (atB bs n).size := by
  obtain ⟨l1, l2, l3, l4, l5, l6, l7, l8, l9, l10, l11, l12⟩ := lits
  unfold elseS
  split
  · simp only [ByteArray.size_append]
    omega
  · omega
theorem labS_size (l : List Int) (s : ByteArray) : ∀ j, (labS l j s).size ≤ s.size + 48 * j
  | 0 => by simp [labS]
  | j + 1 => by
    have := labS_size l s j
    have h1 := numS_size (l[2 * j]?.getD 0)
    have h2 := numS_size (l[2 * j + 1]?.getD 0)
    obtain ⟨l1, l2, l3, l4, l5, l6, l7, l8, l9, l10, l11, l12⟩ := lits
    simp only [labS]
    split <;> split <;> simp only [ByteArray.size_append] <;> omega
def labP (ls : List (List Int)) : Nat → Nat
  | 0 => 0
  | i + 1 => labP ls i + 1 + (ls[i]?.getD []).length
theorem labP_cons (b : List Int) (l : List (List Int)) : ∀ i, labP (b :: l) (i + 1) = 1 + b.length + labP l i
  | 0 => by simp [labP]
  | i + 1 => by
    rw [labP, labP_cons b l i]
    show _ + 1 + ((b :: l)[i + 1]?.getD []).length = 1 + b.length + (labP l i + 1 + (l[i]?.getD []).length)
    rw [List.getElem?_cons_succ]
    omega
theorem labP_le : ∀ (l : List (List Int)), labP l l.length = labN l
  | [] => rfl
  | b :: l => by
    rw [List.length_cons, labP_cons, labP_le l]
    rfl
theorem caseS_size (v : ByteArray) (ls : List (List Int)) (bs : List ByteArray) : ∀ i, (caseS v ls bs i).size ≤ 9 + v.size + 24 * labP ls i + sumP bs i
  | 0 => by
    obtain ⟨l1, l2, l3, l4, l5, l6, l7, l8, l9, l10, l11, l12⟩ := lits
    simp only [caseS, ByteArray.size_append]
    omega
  | i + 1 => by
    have := caseS_size v ls bs i
    have h1 := labS_size (ls[i]?.getD []) (caseS v ls bs i) ((ls[i]?.getD []).length / 2)
    obtain ⟨l1, l2, l3, l4, l5, l6, l7, l8, l9, l10, l11, l12⟩ := lits
    simp only [caseS, sumP, labP, ByteArray.size_append]
    omega
theorem callS_size (fs cs : List ByteArray) (hf : ∀ i, (atB fs i).size ≤ 16) : ∀ i, (callS fs cs i).size ≤ 22 * i + sumP cs i
  | 0 => by simp [callS, lits]
  | i + 1 => by
    have := callS_size fs cs hf i
    have h1 := hf i
    obtain ⟨l1, l2, l3, l4, l5, l6, l7, l8, l9, l10, l11, l12⟩ := lits
    simp only [callS, sumP]
    split <;> simp only [ByteArray.size_append] <;> omega
theorem nodesE_pos (x : Ex) : 1 ≤ nodesE x := by
  cases x
  simp only [nodesE]
  omega
theorem exprsS_sum : ∀ (l : List Ex), (∀ x ∈ l, FitE x) → sumB (exprsS l) ≤ 40 * nodesEs l ∧ (exprsS l).length = l.length ∧ l.length ≤ nodesEs l
  | [], _ => ⟨Nat.le_refl _, rfl, Nat.le_refl _⟩
  | x :: l, h => by
    obtain ⟨h1, h2, h3⟩ := exprsS_sum l fun y hy => h y (List.mem_cons_of_mem _ hy)
    have h4 := exprS_size x (h x (List.mem_cons_self))
    have h5 := nodesE_pos x
    refine ⟨?_, ?_, ?_⟩
    · show (exprS x).size + _ ≤ 40 * (nodesE x + nodesEs l)
      omega
    · simp only [exprsS, List.length_cons, h2]
    · show l.length + 1 ≤ nodesE x + nodesEs l
      omega
theorem none_size {x : Ex} (h : NoneX x) : (exprS x).size ≤ 40 := by
  rw [exprS_top, h.sub, h.op]
  have := topS_size 0 x.n x.name x.field bE bE (by rw [h.nm]; omega) (by rw [h.fd]; omega)
  have h0 : bE.size = 0 := rfl
  show (topS 0 x.n x.name x.field bE bE).size ≤ 40
  omega
theorem part_size {x : Ex} (h : FitE x ∨ NoneX x) : (exprS x).size ≤ 40 * nodesE x := by
  rcases h with h | h
  · exact exprS_size x h
  · have := none_size h
    have := nodesE_pos x
    omega

end Go.Proofs.Ytcamegfnhbbaeaa

namespace Go.Proofs.Ytcamegfnhbbaeaa
open Go.RowKit
set_option linter.unusedVariables false
set_option linter.unusedSimpArgs false

theorem atB_le (l : List ByteArray) (i : Nat) : (atB l i).size ≤ sumB l := by
  have := sumP_le l (i + 1)
  rw [sumP] at this
  omega
theorem topR_size (op : Int) (nm d v : ByteArray) (cs : List ByteArray) (ls : List (List Int)) (fs bs : List ByteArray) (hn : nm.size ≤ 16) (hf : ∀ i, (atB fs i).size ≤ 16) :
    (topR op nm d v cs ls fs bs).size ≤ 60 + d.size + v.size + 22 * cs.length + 22 * fs.length + sumB cs + 24 * labN ls + sumB bs := by
  have h1 := ifS_size cs bs cs.length
  have h2 := elseS_size (ifS cs bs cs.length) bs cs.length
  have h3 := caseS_size v ls bs ls.length
  have h4 := elseS_size (caseS v ls bs ls.length) bs ls.length
  have h5 := callS_size fs cs hf fs.length
  have p1 := sumP_le cs cs.length
  have p2 := sumP_le bs (cs.length + 1)
  have p3 := sumP_le bs (ls.length + 1)
  have p4 := sumP_le cs fs.length
  have p5 := sumP_le cs 3
  have p6 := atB_le bs 0
  have p7 := labP_le ls
  simp only [sumP] at p2 p3 p5
  obtain ⟨l1, l2, l3, l4, l5, l6, l7, l8, l9, l10, l11, l12⟩ := lits
  have m1 : (⟨#[69, 78, 68, 95, 73, 70, 59, 10]⟩ : ByteArray).size = 8 := by decide
  have m2 : (⟨#[69, 78, 68, 95, 67, 65, 83, 69, 59, 10]⟩ : ByteArray).size = 10 := by decide
  have m3 : (⟨#[70, 79, 82, 32]⟩ : ByteArray).size = 4 := by decide
  have m4 : (⟨#[32, 84, 79, 32]⟩ : ByteArray).size = 4 := by decide
  have m5 : (⟨#[32, 66, 89, 32]⟩ : ByteArray).size = 4 := by decide
  have m6 : (⟨#[32, 68, 79, 10]⟩ : ByteArray).size = 4 := by decide
  have m7 : (⟨#[69, 78, 68, 95, 70, 79, 82, 59, 10]⟩ : ByteArray).size = 9 := by decide
  have m8 : (⟨#[87, 72, 73, 76, 69, 32]⟩ : ByteArray).size = 6 := by decide
  have m9 : (⟨#[69, 78, 68, 95, 87, 72, 73, 76, 69, 59, 10]⟩ : ByteArray).size = 11 := by decide
  have n1 : (⟨#[82, 69, 80, 69, 65, 84, 10]⟩ : ByteArray).size = 7 := by decide
  have n2 : (⟨#[85, 78, 84, 73, 76, 32]⟩ : ByteArray).size = 6 := by decide
  have n3 : (⟨#[32, 69, 78, 68, 95, 82, 69, 80, 69, 65, 84, 59, 10]⟩ : ByteArray).size = 13 := by decide
  have n4 : (⟨#[69, 88, 73, 84, 59, 10]⟩ : ByteArray).size = 6 := by decide
  have n5 : (⟨#[82, 69, 84, 85, 82, 78, 59, 10]⟩ : ByteArray).size = 8 := by decide
  have n6 : (⟨#[40]⟩ : ByteArray).size = 1 := by decide
  have n7 : (⟨#[41, 59, 10]⟩ : ByteArray).size = 3 := by decide
  unfold topR
  by_cases q1 : op = 1
  · rw [if_pos q1]; simp only [ByteArray.size_append]; omega
  rw [if_neg q1]
  by_cases q2 : op = 2
  · rw [if_pos q2]; simp only [ByteArray.size_append]; omega
  rw [if_neg q2]
  by_cases q3 : op = 3
  · rw [if_pos q3]; simp only [ByteArray.size_append]; omega
  rw [if_neg q3]
  by_cases q4 : op = 4
  · rw [if_pos q4]; simp only [ByteArray.size_append]; omega
  rw [if_neg q4]
  by_cases q5 : op = 5
  · rw [if_pos q5]; simp only [ByteArray.size_append]; omega
  rw [if_neg q5]
  by_cases q6 : op = 6
  · rw [if_pos q6]; simp only [ByteArray.size_append]; omega
  rw [if_neg q6]
  by_cases q7 : op = 7
  · rw [if_pos q7]; omega
  rw [if_neg q7]
  by_cases q8 : op = 8
  · rw [if_pos q8]; omega
  rw [if_neg q8]
  simp only [ByteArray.size_append]
  omega
theorem FitS.all {s : Stm} (h : FitS s) : FitS1 s ∧ (∀ f ∈ s.fields, f.size ≤ 16) ∧ ∀ bl ∈ s.blocks, ∀ t ∈ bl, FitS t := by
  cases h with
  | mk _ h1 h2 _ h3 => exact ⟨h1, h2, h3⟩
theorem FitS1.dstOk {s : Stm} (h : FitS1 s) : FitE s.dst ∨ NoneX s.dst := by
  by_cases h1 : s.op = 1
  · exact .inl (h.dst1 h1).2
  · exact .inr (h.dst0 h1)
theorem FitS1.srcOk {s : Stm} (h : FitS1 s) : FitE s.src ∨ NoneX s.src := by
  by_cases h1 : s.op = 1 ∨ s.op = 3 ∨ s.op = 5 ∨ s.op = 6
  · exact .inl (h.src1 h1)
  · exact .inr (h.src0 h1)
theorem atB_fields {l : List ByteArray} (h : ∀ f ∈ l, f.size ≤ 16) (i : Nat) : (atB l i).size ≤ 16 := by
  unfold atB
  cases hx : l[i]? with
  | none => decide
  | some x => exact h x (List.mem_of_getElem? hx)
theorem blocksS_len : ∀ l, (blocksS l).length = l.length
  | [] => rfl
  | b :: l => by simp [blocksS, blocksS_len l]
mutual
theorem rowS_size : ∀ s : Stm, FitS s → (rowS s).size ≤ 64 * nodesS s
  | .mk op nm dst src conds labels fields blocks ln, h => by
    obtain ⟨h1, h2, h3⟩ := h.all
    have hb := blocksS_size blocks h3
    have hc := exprsS_sum conds h1.conds
    have hd := part_size h1.dstOk
    have hs := part_size h1.srcOk
    have ht := topR_size op nm (exprS dst) (exprS src) (exprsS conds) labels fields (blocksS blocks) h1.nm (atB_fields h2)
    simp only [Stm.dst, Stm.src] at hd hs
    show (topR op nm (exprS dst) (exprS src) (exprsS conds) labels fields (blocksS blocks)).size ≤ 64 * (1 + nodesE dst + nodesE src + nodesEs conds + labN labels + fields.length + nodesBs blocks)
    omega
theorem rowsS_size : ∀ l : List Stm, (∀ s ∈ l, FitS s) → (rowsS l).size ≤ 64 * nodesSs l
  | [], _ => by decide
  | s :: l, h => by
    have h1 := rowS_size s (h s (List.mem_cons_self))
    have h2 := rowsS_size l fun t ht => h t (List.mem_cons_of_mem _ ht)
    show (rowS s ++ rowsS l).size ≤ 64 * (nodesS s + nodesSs l)
    rw [ByteArray.size_append]
    omega
theorem blocksS_size : ∀ bs : List (List Stm), (∀ b ∈ bs, ∀ s ∈ b, FitS s) → sumB (blocksS bs) ≤ 64 * nodesBs bs
  | [], _ => Nat.le_refl _
  | b :: l, h => by
    have h1 := rowsS_size b (h b (List.mem_cons_self))
    have h2 := blocksS_size l fun c hc => h c (List.mem_cons_of_mem _ hc)
    show (rowsS b).size + sumB (blocksS l) ≤ 64 * (1 + nodesSs b + nodesBs l)
    omega
end
theorem rowsS_snoc (l : List Stm) (s : Stm) : rowsS (l ++ [s]) = rowsS l ++ rowS s := by
  induction l with
  | nil =>
    show rowS s ++ ByteArray.empty = ByteArray.empty ++ rowS s
    simp
  | cons x l ih => simp [rowsS, ih, ByteArray.append_assoc]
theorem rowsS_take {l : List Stm} {i : Nat} {s : Stm} (h : l[i]? = some s) : rowsS (l.take (i + 1)) = rowsS (l.take i) ++ rowS s := by
  rw [List.take_add_one, h]
  exact rowsS_snoc _ _
theorem nodesSs_get : ∀ {l : List Stm} {i : Nat} {s : Stm}, l[i]? = some s → nodesS s ≤ nodesSs l
  | [], i, y, h => by simp at h
  | x :: l, 0, y, h => by
    simp at h
    subst h
    exact Nat.le_add_right _ _
  | x :: l, i + 1, y, h => by
    have := nodesSs_get (l := l) (i := i) (s := y) (by simpa using h)
    show nodesS y ≤ nodesS x + nodesSs l
    omega
theorem nodesSs_take : ∀ (l : List Stm) (i : Nat), nodesSs (l.take i) ≤ nodesSs l
  | [], i => by simp
  | x :: l, 0 => by simp [nodesSs]
  | x :: l, i + 1 => by
    have := nodesSs_take l i
    simp only [List.take_succ_cons, nodesSs]
    omega
theorem nodesBs_get : ∀ {l : List (List Stm)} {i : Nat} {b : List Stm}, l[i]? = some b → nodesSs b ≤ nodesBs l
  | [], i, y, h => by simp at h
  | x :: l, 0, y, h => by
    simp at h
    subst h
    simp only [nodesBs]
    omega
  | x :: l, i + 1, y, h => by
    have := nodesBs_get (l := l) (i := i) (b := y) (by simpa using h)
    simp only [nodesBs]
    omega
theorem blocksS_get : ∀ (l : List (List Stm)) (i : Nat), (blocksS l)[i]? = l[i]?.map rowsS
  | [], i => by simp [blocksS]
  | x :: l, 0 => by simp [blocksS]
  | x :: l, i + 1 => by simp [blocksS, blocksS_get l i]
theorem rowS_top (s : Stm) : rowS s = topR s.op s.name (exprS s.dst) (exprS s.src) (exprsS s.conds) s.labels s.fields (blocksS s.blocks) := by
  cases s
  rfl

end Go.Proofs.Ytcamegfnhbbaeaa
