/- Merged: Do statements fit? Told exactly, in plain Lean. Statements that fit, told exactly: reasons, in plain Lean. An expression that is none, told exactly. -/
import Derived.Test.YtcamegfnhbbaeaaM20
import Derived.Test.YtcamegfnhbbaeaaTreeK1
namespace Go.Proofs.Ytcamegfnhbbaeaa
open Go.RowKit
set_option linter.unusedVariables false
set_option linter.unusedSimpArgs false

/-- no expression -/
def noneB (x : Ex) : Bool := decide (x.op = 0) && decide (x.n = 0) && decide (x.name.size + x.field.size + x.sub.length = 0)
theorem noneB_none {x : Ex} (h : noneB x = true) : NoneX x := by
  unfold noneB at h
  simp only [Bool.and_eq_true, decide_eq_true_eq] at h
  obtain ⟨⟨h1, h2⟩, h3⟩ := h
  exact ⟨h1, h2, by omega, by omega, List.eq_nil_of_length_eq_zero (by omega)⟩
def okA (op : Int) (nm : ByteArray) : Bool := decide (1 ≤ op ∧ op ≤ 9) && (if shNamed op = true then nameB nm else decide (nm.toList = []))
def okB (op : Int) (x : Ex) : Bool := if shTo op = true then decide (x.op = 3 ∨ x.op = 4) && fitEB x else noneB x
def okC (op : Int) (x : Ex) (cs : List Ex) : Bool := (if shVal op = true then !noneB x && fitEB x else noneB x) && fitEsB cs
def okD (op : Int) (nc nl nf nb : Nat) : Bool := decide (nc = cC op nc nf) && decide (nl = cL op nl) && decide (nf = cF op nf) && decide (cB op nc nl ≤ nb ∧ nb ≤ cB op nc nl + cM op)
def okL (l : List Int) : Bool := decide (l.length ≠ 0) && decide (l.length % 2 = 0) && l.all fun z => decide (z ≠ -9223372036854775808)
mutual
def fitSB : Stm → Bool
  | .mk op nm dst src conds labels fields blocks _ => okA op nm && okB op dst && okC op src conds && okD op conds.length labels.length fields.length blocks.length && fields.all nameB && labels.all okL && fitBsB blocks
def fitSsB : List Stm → Bool
  | [] => true
  | s :: l => fitSB s && fitSsB l
def fitBsB : List (List Stm) → Bool
  | [] => true
  | b :: l => fitSsB b && fitBsB l
end
theorem fitSB_top (s : Stm) : fitSB s = (okA s.op s.name && okB s.op s.dst && okC s.op s.src s.conds && okD s.op s.conds.length s.labels.length s.fields.length s.blocks.length && s.fields.all nameB && s.labels.all okL && fitBsB s.blocks) := by
  cases s
  simp only [fitSB, Stm.op, Stm.name, Stm.dst, Stm.src, Stm.conds, Stm.labels, Stm.fields, Stm.blocks]
theorem fitSsB_no : ∀ {l : List Stm} {i : Nat} {s : Stm}, l[i]? = some s → fitSB s = false → fitSsB l = false
  | [], i, x, h, _ => by simp at h
  | y :: l, 0, x, h, hx => by
    simp at h
    subst h
    simp [fitSsB, hx]
  | y :: l, i + 1, x, h, hx => by
    have := fitSsB_no (l := l) (i := i) (s := x) (by simpa using h) hx
    simp [fitSsB, this]
theorem fitSsB_yes : ∀ {l : List Stm}, (∀ (i : Nat) (s : Stm), l[i]? = some s → fitSB s = true) → fitSsB l = true
  | [], _ => by simp [fitSsB]
  | y :: l, h => by
    have h1 := h 0 y rfl
    have h2 := fitSsB_yes (l := l) fun i x hx => h (i + 1) x (by simpa using hx)
    simp [fitSsB, h1, h2]
theorem fitBsB_no : ∀ {l : List (List Stm)} {i : Nat} {b : List Stm}, l[i]? = some b → fitSsB b = false → fitBsB l = false
  | [], i, x, h, _ => by simp at h
  | y :: l, 0, x, h, hx => by
    simp at h
    subst h
    simp [fitBsB, hx]
  | y :: l, i + 1, x, h, hx => by
    have := fitBsB_no (l := l) (i := i) (b := x) (by simpa using h) hx
    simp [fitBsB, this]
theorem fitBsB_yes : ∀ {l : List (List Stm)}, (∀ (i : Nat) (b : List Stm), l[i]? = some b → fitSsB b = true) → fitBsB l = true
  | [], _ => by simp [fitBsB]
  | y :: l, h => by
    have h1 := h 0 y rfl
    have h2 := fitBsB_yes (l := l) fun i x hx => h (i + 1) x (by simpa using hx)
    simp [fitBsB, h1, h2]
theorem fy_A {s : Stm} (h : okA s.op s.name = false) : fitSB s = false := by rw [fitSB_top, h]; simp
theorem fy_B {s : Stm} (h : okB s.op s.dst = false) : fitSB s = false := by rw [fitSB_top, h]; simp
theorem fy_C {s : Stm} (h : okC s.op s.src s.conds = false) : fitSB s = false := by rw [fitSB_top, h]; simp
theorem fy_D {s : Stm} (h : okD s.op s.conds.length s.labels.length s.fields.length s.blocks.length = false) : fitSB s = false := by rw [fitSB_top, h]; simp
theorem fy_F {s : Stm} (h : s.fields.all nameB = false) : fitSB s = false := by rw [fitSB_top, h]; simp
theorem fy_L {s : Stm} (h : s.labels.all okL = false) : fitSB s = false := by rw [fitSB_top, h]; simp
theorem fy_T {s : Stm} (h : fitBsB s.blocks = false) : fitSB s = false := by rw [fitSB_top, h]; simp
theorem fy_yes {s : Stm} (h1 : okA s.op s.name = true) (h2 : okB s.op s.dst = true) (h3 : okC s.op s.src s.conds = true) (h4 : okD s.op s.conds.length s.labels.length s.fields.length s.blocks.length = true) (h5 : s.fields.all nameB = true) (h6 : s.labels.all okL = true) (h7 : fitBsB s.blocks = true) : fitSB s = true := by
  rw [fitSB_top, h1, h2, h3, h4, h5, h6, h7]
  rfl

end Go.Proofs.Ytcamegfnhbbaeaa

namespace Go.Proofs.Ytcamegfnhbbaeaa
open Go.RowKit
set_option linter.unusedVariables false
set_option linter.unusedSimpArgs false

theorem not_f {a : Bool} (h : false = !a) : a = true := by cases a <;> simp_all
theorem not_t {a : Bool} (h : true = !a) : a = false := by cases a <;> simp_all
theorem all_no {α : Type} {f : α → Bool} : ∀ {l : List α} {i : Nat} {x : α}, l[i]? = some x → f x = false → l.all f = false
  | [], i, x, h, _ => by simp at h
  | y :: l, 0, x, h, hx => by
    simp at h
    subst h
    simp [hx]
  | y :: l, i + 1, x, h, hx => by
    have := all_no (l := l) (i := i) (x := x) (by simpa using h) hx
    simp only [List.all_cons, this, Bool.and_false]
theorem all_yes {α : Type} {f : α → Bool} : ∀ {l : List α}, (∀ (i : Nat) (x : α), l[i]? = some x → f x = true) → l.all f = true
  | [], _ => by simp
  | y :: l, h => by
    have h1 := h 0 y rfl
    have h2 := all_yes (l := l) fun i x hx => h (i + 1) x (by simpa using hx)
    simp only [List.all_cons, h1, h2, Bool.and_self]
theorem okA_lo {op : Int} {nm : ByteArray} (h : op < 1) : okA op nm = false := by unfold okA; rw [show decide (1 ≤ op ∧ op ≤ 9) = false by simp; omega]; rfl
theorem okA_hi {op : Int} {nm : ByteArray} (h : 9 < op) : okA op nm = false := by unfold okA; rw [show decide (1 ≤ op ∧ op ≤ 9) = false by simp; omega]; rfl
theorem okA_em {op : Int} {nm : ByteArray} (h : 1 ≤ op ∧ op ≤ 9) (h1 : shNamed op = false) (h2 : nm.toList = []) : okA op nm = true := by unfold okA; rw [h1, show decide (1 ≤ op ∧ op ≤ 9) = true from decide_eq_true h, show decide (nm.toList = []) = true from decide_eq_true h2]; rfl
theorem okA_ne {op : Int} {nm : ByteArray} (h1 : shNamed op = false) (h2 : ¬ nm.toList = []) : okA op nm = false := by unfold okA; rw [h1, show decide (nm.toList = []) = false from decide_eq_false h2]; simp
theorem okA_nm {op : Int} {nm : ByteArray} {b : Bool} (h : 1 ≤ op ∧ op ≤ 9) (h1 : shNamed op = true) (h2 : nameB nm = b) : okA op nm = b := by unfold okA; rw [h1, show decide (1 ≤ op ∧ op ≤ 9) = true from decide_eq_true h, h2]; rfl
theorem okA_op {op : Int} {nm : ByteArray} (h : okA op nm = true) : 1 ≤ op ∧ op ≤ 9 := by
  unfold okA at h
  simp only [Bool.and_eq_true, decide_eq_true_eq] at h
  exact h.1
theorem okB_none {op : Int} {x : Ex} {b : Bool} (h : shTo op = false) (h2 : noneB x = b) : okB op x = b := by unfold okB; rw [h, h2]; rfl
theorem okB_fit {op : Int} {x : Ex} {b : Bool} (h : shTo op = true) (h1 : x.op = 3 ∨ x.op = 4) (h2 : fitEB x = b) : okB op x = b := by unfold okB; rw [h, h2, show decide (x.op = 3 ∨ x.op = 4) = true from decide_eq_true h1]; rfl
theorem okB_no {op : Int} {x : Ex} (h : shTo op = true) (h1 : ¬ (x.op = 3 ∨ x.op = 4)) : okB op x = false := by unfold okB; rw [h, show decide (x.op = 3 ∨ x.op = 4) = false from decide_eq_false h1]; rfl
theorem okC_n0 {op : Int} {x : Ex} {cs : List Ex} (h : shVal op = false) (h1 : noneB x = false) : okC op x cs = false := by unfold okC; rw [h, h1]; rfl
theorem okC_n1 {op : Int} {x : Ex} {cs : List Ex} {b : Bool} (h : shVal op = false) (h1 : noneB x = true) (h2 : fitEsB cs = b) : okC op x cs = b := by unfold okC; rw [h, h1, h2]; rfl
theorem okC_v0 {op : Int} {x : Ex} {cs : List Ex} (h : shVal op = true) (h1 : fitEB x = false) : okC op x cs = false := by unfold okC; rw [h, h1]; simp
theorem okC_vn {op : Int} {x : Ex} {cs : List Ex} (h : shVal op = true) (h1 : noneB x = true) : okC op x cs = false := by unfold okC; rw [h, h1]; simp
theorem okC_v1 {op : Int} {x : Ex} {cs : List Ex} {b : Bool} (h : shVal op = true) (h0 : noneB x = false) (h1 : fitEB x = true) (h2 : fitEsB cs = b) : okC op x cs = b := by unfold okC; rw [h, h0, h1, h2]; rfl
theorem okD_c {op : Int} {nc nl nf nb : Nat} (h : ¬ nc = cC op nc nf) : okD op nc nl nf nb = false := by unfold okD; rw [show decide (nc = cC op nc nf) = false from decide_eq_false h]; simp
theorem okD_l {op : Int} {nc nl nf nb : Nat} (h : ¬ nl = cL op nl) : okD op nc nl nf nb = false := by unfold okD; rw [show decide (nl = cL op nl) = false from decide_eq_false h]; simp
theorem okD_f {op : Int} {nc nl nf nb : Nat} (h : ¬ nf = cF op nf) : okD op nc nl nf nb = false := by unfold okD; rw [show decide (nf = cF op nf) = false from decide_eq_false h]; simp
theorem okD_b {op : Int} {nc nl nf nb : Nat} (h : ¬ (cB op nc nl ≤ nb ∧ nb ≤ cB op nc nl + cM op)) : okD op nc nl nf nb = false := by unfold okD; rw [show decide (cB op nc nl ≤ nb ∧ nb ≤ cB op nc nl + cM op) = false from decide_eq_false h]; simp
theorem okD_yes {op : Int} {nc nl nf nb : Nat} (h1 : nc = cC op nc nf) (h2 : nl = cL op nl) (h3 : nf = cF op nf) (h4 : cB op nc nl ≤ nb ∧ nb ≤ cB op nc nl + cM op) : okD op nc nl nf nb = true := by
  unfold okD
  rw [show decide (nc = cC op nc nf) = true from decide_eq_true h1, show decide (nl = cL op nl) = true from decide_eq_true h2, show decide (nf = cF op nf) = true from decide_eq_true h3, show decide (cB op nc nl ≤ nb ∧ nb ≤ cB op nc nl + cM op) = true from decide_eq_true h4]
  rfl
theorem okL_0 {l : List Int} (h : l.length = 0) : okL l = false := by unfold okL; rw [show decide (l.length ≠ 0) = false from decide_eq_false (fun h1 => h1 h)]; rfl
theorem okL_1 {l : List Int} (h : l.length % 2 = 1) : okL l = false := by unfold okL; rw [show decide (l.length % 2 = 0) = false from decide_eq_false (by omega)]; simp
theorem okL_min {l : List Int} {i : Nat} (h : l[i]? = some (-9223372036854775808)) : okL l = false := by unfold okL; rw [all_no (f := fun z => decide (z ≠ -9223372036854775808)) h (decide_eq_false (fun h1 => h1 rfl))]; simp
theorem okL_yes {l : List Int} (h1 : ¬ l.length = 0) (h2 : l.length % 2 = 0) (h3 : ∀ (i : Nat) (y : Int), l[i]? = some y → y ≠ -9223372036854775808) : okL l = true := by
  unfold okL
  rw [all_yes (f := fun z => decide (z ≠ -9223372036854775808)) fun i x hx => decide_eq_true (h3 i x hx), show decide (l.length ≠ 0) = true from decide_eq_true h1, show decide (l.length % 2 = 0) = true from decide_eq_true h2]
  rfl
mutual
/-- what fits fits -/
theorem fitSB_fit : ∀ s : Stm, fitSB s = true → FitS s
  | .mk op nm dst src conds labels fields blocks ln, h => by
    simp only [fitSB, Bool.and_eq_true] at h
    obtain ⟨⟨⟨⟨⟨⟨a1, a2⟩, a3⟩, a4⟩, a5⟩, a6⟩, a7⟩ := h
    have h19 := okA_op a1
    unfold okA at a1
    unfold okB at a2
    unfold okC at a3
    unfold okD at a4
    simp only [Bool.and_eq_true, decide_eq_true_eq] at a1 a3 a4
    obtain ⟨a31, a32⟩ := a3
    obtain ⟨⟨⟨a41, a42⟩, a43⟩, a44⟩ := a4
    have hE := fitEsB_fit conds a32
    refine .mk _ ⟨h19.1, h19.2, ?_, fun h => ?_, fun h => ?_, fun h => ?_, fun h => ?_, hE, fun h => ?_, fun h => ?_, fun h => ?_, fun h => ?_, fun h => ?_⟩ (fun f hf => nameB_size (List.all_eq_true.1 a5 f hf)) (fun l hl => ?_) (fitBsB_fit blocks a7)
    · show nm.size ≤ 16
      obtain ⟨-, b1⟩ := a1
      split at b1
      · exact nameB_size b1
      · exact empty_le (by simpa using b1)
    · change op = 1 at h
      rw [if_pos (by unfold shTo; exact decide_eq_true (by omega))] at a2
      simp only [Bool.and_eq_true, decide_eq_true_eq] at a2
      exact ⟨a2.1, fitEB_fit _ a2.2⟩
    · change op ≠ 1 at h
      rw [if_neg (by unfold shTo; simp; omega)] at a2
      exact noneB_none a2
    · change op = 1 ∨ op = 3 ∨ op = 5 ∨ op = 6 at h
      rw [if_pos (by unfold shVal; exact decide_eq_true (by omega))] at a31
      simp only [Bool.and_eq_true] at a31
      exact fitEB_fit _ a31.2
    · change ¬ (op = 1 ∨ op = 3 ∨ op = 5 ∨ op = 6) at h
      rw [if_neg (by unfold shVal; simp; omega)] at a31
      exact noneB_none a31
    · change op = 2 at h
      subst h
      show 1 ≤ conds.length ∧ conds.length ≤ blocks.length ∧ blocks.length ≤ conds.length + 1
      simp [cC, cB, cM] at a41 a44
      omega
    · change op = 3 at h
      subst h
      show labels.length ≤ blocks.length ∧ blocks.length ≤ labels.length + 1
      simp [cC, cB, cM] at a41 a44
      omega
    · change op = 4 at h
      subst h
      show conds.length = 3 ∧ blocks.length = 1
      simp [cC, cB, cM] at a41 a44
      omega
    · show blocks.length = 1
      rcases h with h | h
      all_goals (change op = _ at h; subst h; simp [cC, cB, cM] at a41 a44; omega)
    · change op = 9 at h
      subst h
      show conds.length = fields.length
      simp [cC, cB, cM] at a41 a44
      omega
    · have := List.all_eq_true.1 a6 l hl
      unfold okL at this
      simp only [Bool.and_eq_true, decide_eq_true_eq] at this
      exact this.1.2
theorem fitSsB_fit : ∀ l : List Stm, fitSsB l = true → ∀ s ∈ l, FitS s
  | [], _, x, hx => by cases hx
  | y :: l, h, x, hx => by
    simp only [fitSsB, Bool.and_eq_true] at h
    rcases List.mem_cons.1 hx with he | hx
    · rw [he]
      exact fitSB_fit y h.1
    · exact fitSsB_fit l h.2 x hx
theorem fitBsB_fit : ∀ l : List (List Stm), fitBsB l = true → ∀ b ∈ l, ∀ s ∈ b, FitS s
  | [], _, x, hx => by cases hx
  | y :: l, h, x, hx => by
    simp only [fitBsB, Bool.and_eq_true] at h
    rcases List.mem_cons.1 hx with he | hx
    · rw [he]
      exact fitSsB_fit y h.1
    · exact fitBsB_fit l h.2 x hx
end

end Go.Proofs.Ytcamegfnhbbaeaa

namespace Go.Proofs.Ytcamegfnhbbaeaa
open Go.RowKit
set_option linter.unusedVariables false
set_option linter.unusedSimpArgs false
attribute [local go_sem] ite_max ite_min vite_max vite_min ext_cell ext_frozen

set_option maxRecDepth 100000 in
set_option maxHeartbeats 4000000 in
theorem none_is (x : Ex) (A : Option Addr) (k : Nat) (w : World) (hs : SmE x) (hl : x.sub.length * 80 ≤ 140737488355328) : Calls Try.prog 55 #[.agg (ExC x A k).toArray] w fun e w' => e = .returned (.bool (noneB x)) ∧ Below w.heap.size w w' := by
  obtain ⟨res, hres⟩ : ∃ r, noneB x = r := ⟨_, rfl⟩
  rw [hres]
  unfold noneB at hres
  show Calls Try.prog 55 #[.agg #[.int .i64 x.op, .int .i64 x.n, .string x.name, .string x.field, .slice A x.sub.length k, .int .i64 x.line]] w _
  obtain ⟨op, hop⟩ : ∃ op, x.op = op := ⟨_, rfl⟩
  obtain ⟨n, hn⟩ : ∃ n, x.n = n := ⟨_, rfl⟩
  obtain ⟨a, ha⟩ : ∃ a, x.name = a := ⟨_, rfl⟩
  obtain ⟨b, hb⟩ : ∃ a, x.field = a := ⟨_, rfl⟩
  obtain ⟨c, hc⟩ : ∃ c, x.sub.length = c := ⟨_, rfl⟩
  obtain ⟨h1, h2⟩ := hs
  rw [ha] at h1
  rw [hb] at h2
  rw [hc] at hl
  rw [hop, hn, ha, hb, hc] at hres
  rw [hop, hn, ha, hb, hc]
  clear hop hn ha hb hc
  by_cases h0 : op = 0
  · subst h0
    by_cases hn0 : n = 0
    · subst hn0
      by_cases hz : (a.size : Int) + b.size + c = 0
      · have hz2 : ((a.size : Int) + b.size + c == 0) = true := by simp; omega
        have hr : res = true := by rw [← hres, show decide (a.size + b.size + c = 0) = true from decide_eq_true (by omega)]; rfl
        subst hr
        clear hres
        go_enter Try.func55, Try.ntmps55
        go_wp2
        go_ret
        exact ⟨rfl, by (repeat' (first | (with_reducible exact Below.refl _ _) | (with_reducible assumption) | (with_reducible refine below_drewN ?_ _) | (with_reducible refine Below.drew ?_) | (with_reducible refine below_new ?_ (Nat.le_refl _) _) | (with_reducible refine Below.setCell ?_ ?_ _) | (with_reducible refine below_go ?_ (by assumption) (Nat.le_refl _)) | (simp; done) | (simp; omega) | omega))⟩
      · have hz2 : ((a.size : Int) + b.size + c == 0) = false := by simp; omega
        have hr : res = false := by rw [← hres, show decide (a.size + b.size + c = 0) = false from decide_eq_false (by omega)]; rfl
        subst hr
        clear hres
        go_enter Try.func55, Try.ntmps55
        go_wp2
        go_ret
        exact ⟨rfl, by (repeat' (first | (with_reducible exact Below.refl _ _) | (with_reducible assumption) | (with_reducible refine below_drewN ?_ _) | (with_reducible refine Below.drew ?_) | (with_reducible refine below_new ?_ (Nat.le_refl _) _) | (with_reducible refine Below.setCell ?_ ?_ _) | (with_reducible refine below_go ?_ (by assumption) (Nat.le_refl _)) | (simp; done) | (simp; omega) | omega))⟩
    · have hr : res = false := by rw [← hres, show decide (n = 0) = false by simpa using hn0]; rfl
      subst hr
      clear hres
      go_enter Try.func55, Try.ntmps55
      go_wp2
      go_ret
      exact ⟨rfl, by (repeat' (first | (with_reducible exact Below.refl _ _) | (with_reducible assumption) | (with_reducible refine below_drewN ?_ _) | (with_reducible refine Below.drew ?_) | (with_reducible refine below_new ?_ (Nat.le_refl _) _) | (with_reducible refine Below.setCell ?_ ?_ _) | (with_reducible refine below_go ?_ (by assumption) (Nat.le_refl _)) | (simp; done) | (simp; omega) | omega))⟩
  · have hr : res = false := by rw [← hres, show decide (op = 0) = false by simpa using h0]; rfl
    subst hr
    clear hres
    go_enter Try.func55, Try.ntmps55
    go_wp2
    go_ret
    exact ⟨rfl, by (repeat' (first | (with_reducible exact Below.refl _ _) | (with_reducible assumption) | (with_reducible refine below_drewN ?_ _) | (with_reducible refine Below.drew ?_) | (with_reducible refine below_new ?_ (Nat.le_refl _) _) | (with_reducible refine Below.setCell ?_ ?_ _) | (with_reducible refine below_go ?_ (by assumption) (Nat.le_refl _)) | (simp; done) | (simp; omega) | omega))⟩

end Go.Proofs.Ytcamegfnhbbaeaa
