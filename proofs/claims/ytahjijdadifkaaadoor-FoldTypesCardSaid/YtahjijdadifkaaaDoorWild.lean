/- A region that draws its order, with callees and allocs whose results hang on the order (new memory): their results are told by relations that stay true as memory grows; all else yields one value. One walk serves every order. -/
import Derived.Test.YtahjijdadifkaaaDoorM00
namespace Go.Proofs.YtahjijdadifkaaaDoor
open Go.RowKit
set_option linter.unusedVariables false
set_option linter.unusedSimpArgs false

section
variable {P : Program} {ops : Array Oper}

structure Wd where
 i : Nat
 d : Tmp
 R : Value → World → Prop
 N : Value → List Nat
 D : List Nat := []
 L : List Value → Value → Prop := fun _ _ => True

def headDone (ops : Array Oper) (n : Nat) : Array Bool := ((List.range ops.size).map fun i => decide (i < n)).toArray
def readsB (ops : Array Oper) (n i : Nat) (o : Oper) : Bool :=
 (List.range n).all fun j => match dstOf ops j with
  | some d => !((o.looksAt ops).contains d) || (decide (j < i) && o.after.any fun e => Region.binds .any e && e.on == j)
  | none => true
def wildOpB (ops : Array Oper) (n : Nat) (wl : List (Nat × Tmp)) (i : Nat) : Bool :=
 (dstOf ops i).isSome && ((List.range i).all fun j => dstOf ops i != dstOf ops j) &&
 (match ops[i]? with
  | some o => (o.after.all fun e => !Region.binds .any e || decide (e.on < i)) && readsB ops n i o && (wl.any (fun x => x.1 == i) || wl.all fun x => !((o.looksAt ops).contains x.2))
  | none => false)
def sinkL (ops : Array Oper) (n lt : Nat) : Bool :=
 (List.range n).all fun i => i == lt || (List.range (n + 1)).any fun j => decide (i < j) && j != lt && Region.waitsFor .any ops j i
def lateDone (ops : Array Oper) (n lt : Nat) : Array Bool := ((List.range ops.size).map fun i => decide (i < n) && i != lt).toArray
def wildB (ops : Array Oper) (n lt : Nat) (wl : List (Nat × Tmp)) : Bool :=
 Region.noSelect ops && decide (n < ops.size) && sinkL ops n lt && Region.chainB .any ops n && (decide (n ≤ lt) || (Region.free .any ops (lateDone ops n lt) lt && wl.any fun x => x.1 == lt)) &&
 Region.seqB .any ops (ops.size - n) n (headDone ops n) && ((List.range n).all fun i => wildOpB ops n wl i) && (wl.all fun x => decide (x.1 < n) && dstOf ops x.1 == some x.2) && decide ((wl.map (·.1)).Nodup)

def depB (ops : Array Oper) (l : List (Nat × List Nat)) : Bool :=
 l.all fun x => x.2.all fun j => match ops[x.1]? with
  | some o => o.after.any fun e => Region.binds .any e && e.on == j
  | none => false

structure WildOk (ops : Array Oper) (n lt : Nat) (wl : List Wd) : Prop where
 sel : ∀ (j : Nat) (o : Oper) cs b, ops[j]? = some o → o.op ≠ .select cs b
 hn : n < ops.size
 sink : sinkL ops n lt = true
 late : lt < n → Region.free .any ops (lateDone ops n lt) lt = true ∧ ∃ x ∈ wl, x.i = lt
 chain : Region.chainB .any ops n = true
 seq : Region.seqB .any ops (ops.size - n) n (headDone ops n) = true
 dst : ∀ i, i < n → ∃ d, dstOf ops i = some d
 dist : ∀ i j, i < n → j < n → i ≠ j → dstOf ops i ≠ dstOf ops j
 back : ∀ i o, i < n → ops[i]? = some o → ∀ e ∈ o.after, Region.binds .any e = true → e.on < i
 reads : ∀ i o, i < n → ops[i]? = some o → ∀ j d, j < n → dstOf ops j = some d → d ∈ o.looksAt ops → j < i ∧ ∃ e ∈ o.after, Region.binds .any e = true ∧ e.on = j
 quiet : ∀ i o, i < n → ops[i]? = some o → (∀ x ∈ wl, x.i ≠ i) → ∀ x ∈ wl, x.d ∉ o.looksAt ops
 wlt : ∀ x ∈ wl, x.i < n ∧ dstOf ops x.i = some x.d
 uniq : ∀ x ∈ wl, ∀ y ∈ wl, x.i = y.i → x = y
 deps : ∀ x ∈ wl, ∀ j ∈ x.D, ∀ o, ops[x.i]? = some o → ∃ e ∈ o.after, Region.binds .any e = true ∧ e.on = j

theorem uniq_of (wl : List Wd) (h : (wl.map fun x => x.i).Nodup) : ∀ x ∈ wl, ∀ y ∈ wl, x.i = y.i → x = y := by
 induction wl with
 | nil => exact fun x hx => by cases hx
 | cons z wl ih =>
  rw [List.map_cons, List.nodup_cons] at h
  intro x hx y hy he
  rcases List.mem_cons.1 hx with h1 | h1
  ·rcases List.mem_cons.1 hy with h2 | h2
   ·rw [h1, h2]
   ·exact absurd (List.mem_map.2 ⟨y, h2, by rw [← h1]; exact he.symm⟩) h.1
  ·rcases List.mem_cons.1 hy with h2 | h2
   ·exact absurd (List.mem_map.2 ⟨x, h1, by rw [← h2]; exact he⟩) h.1
   ·exact ih h.2 x h1 y h2 he

theorem WildOk.of {n lt : Nat} {wl : List Wd} (h : wildB ops n lt (wl.map fun x => (x.i, x.d)) = true) (hD : depB ops (wl.map fun x => (x.i, x.D)) = true) : WildOk ops n lt wl := by
 simp only [wildB, Bool.and_eq_true, decide_eq_true_eq] at h
 obtain ⟨⟨⟨⟨⟨⟨⟨⟨hsel, hn⟩, hs⟩, hc⟩, hlt⟩, hq⟩, hops⟩, hw⟩, hnd⟩ := h
 rw [List.map_map] at hnd
 have hop : ∀ i, i < n → wildOpB ops n (wl.map fun x => (x.i, x.d)) i = true := fun i hi => List.all_eq_true.1 hops i (List.mem_range.2 hi)
 have hwl : ∀ x ∈ wl, x.i < n ∧ dstOf ops x.i = some x.d := fun x hx => by
  have := List.all_eq_true.1 hw (x.i, x.d) (List.mem_map.2 ⟨x, hx, rfl⟩)
  simpa using this
 have hdist : ∀ i j, i < n → j < i → dstOf ops i ≠ dstOf ops j := fun i j hi hj e => by
  have := hop i hi
  simp only [wildOpB, Bool.and_eq_true] at this
  have := List.all_eq_true.1 this.1.2 j (List.mem_range.2 hj)
  simp [e] at this
 refine ⟨Region.noSelect_spec hsel, hn, hs, fun hl => ?_, hc, hq, fun i hi => ?_, fun i j hi hj hne => ?_, fun i o hi ho e he hb => ?_, fun i o hi ho j d hj hd hl => ?_, fun i o hi ho hni x hx => ?_, hwl, uniq_of wl hnd, fun x hx j hj o ho => ?_⟩
 ·simp only [Bool.or_eq_true, decide_eq_true_eq, Bool.and_eq_true] at hlt
  rcases hlt with h | ⟨h1, h2⟩
  ·omega
  ·obtain ⟨y, hy, hyi⟩ := List.any_eq_true.1 h2
   obtain ⟨z, hz, rfl⟩ := List.mem_map.1 hy
   exact ⟨h1, z, hz, by simpa using hyi⟩
 ·have := hop i hi
  simp only [wildOpB, Bool.and_eq_true] at this
  exact Option.isSome_iff_exists.1 this.1.1
 ·rcases Nat.lt_or_gt_of_ne hne with h | h
  ·exact fun e => hdist j i hj h e.symm
  ·exact hdist i j hi h
 ·have := hop i hi
  simp only [wildOpB, Bool.and_eq_true, ho] at this
  have := Array.all_eq_true_iff_forall_mem.1 this.2.1.1 e he
  simpa [hb] using this
 ·have := hop i hi
  simp only [wildOpB, Bool.and_eq_true, ho] at this
  have := List.all_eq_true.1 this.2.1.2 j (List.mem_range.2 hj)
  rw [hd] at this
  simp only [Bool.or_eq_true, Bool.and_eq_true, decide_eq_true_eq, Bool.not_eq_true'] at this
  rcases this with h0 | ⟨h1, h2⟩
  ·have : (o.looksAt ops).contains d = true := by simpa using hl
   rw [h0] at this
   cases this
  ·obtain ⟨e, he, hb⟩ := Array.any_eq_true'.1 h2
   simp only [Bool.and_eq_true, beq_iff_eq] at hb
   exact ⟨h1, e, he, hb.1, hb.2⟩
 ·have := hop i hi
  simp only [wildOpB, Bool.and_eq_true, ho, Bool.or_eq_true] at this
  rcases this.2.2 with h0 | h0
  ·obtain ⟨y, hy, hyi⟩ := List.any_eq_true.1 h0
   obtain ⟨z, hz, rfl⟩ := List.mem_map.1 hy
   exact absurd (by simpa using hyi) (hni z hz)
  ·have := List.all_eq_true.1 h0 (x.i, x.d) (List.mem_map.2 ⟨x, hx, rfl⟩)
   simpa using this
 ·have h1 := List.all_eq_true.1 hD (x.i, x.D) (List.mem_map.2 ⟨x, hx, rfl⟩)
  have h2 := List.all_eq_true.1 h1 j hj
  simp only [ho] at h2
  obtain ⟨e, he, hb⟩ := Array.any_eq_true'.1 h2
  simp only [Bool.and_eq_true, beq_iff_eq] at hb
  exact ⟨e, he, hb.1, hb.2⟩

theorem eval_agree {a b : Act} {x : Operand} (h : ∀ t, x = .tmp t → a.tmps[t]? = b.tmps[t]?) : a.eval x = b.eval x := by
 cases x with
 | tmp t => simp only [Act.eval, Array.getD_eq_getD_getElem?, h t rfl]
 | _ => rfl
def AgreeOn (ds : List Tmp) (a b : Act) : Prop := ∀ d ∈ ds, a.tmps[d]? = b.tmps[d]?
theorem exec_agree {o : Oper} (hs : ∀ cs b, o.op ≠ .select cs b) {a b : Act} (h : AgreeOn (o.looksAt ops) a b) : execOp a.eval o = execOp b.eval o :=
 execOp_congr o hs fun x hx => eval_agree fun t ht => h t (by
  subst ht
  exact List.mem_append_left _ (List.mem_filterMap.2 ⟨.tmp t, by simpa using hx, rfl⟩))
theorem wanted_agree {o : Oper} {a b : Act} (h : AgreeOn (o.looksAt ops) a b) : Region.wanted o (yielded ops a.tmps) = Region.wanted o (yielded ops b.tmps) := by
 unfold Region.wanted
 cases hg : o.guard with
 | none => rfl
 | some gw =>
  obtain ⟨g, want⟩ := gw
  have hy : yielded ops a.tmps g = yielded ops b.tmps g := by
   unfold yielded
   cases ht : (ops[g]?).bind (·.dst) with
   | none => rfl
   | some t =>
    have := h t (by simp [Oper.looksAt, hg, ht])
    simp only [Option.bind_some, this]
  simp only [hy]

theorem put_size (a : Act) (x : Option Tmp) (v : Value) : (a.put x v).tmps.size = a.tmps.size := by
 cases x <;> simp [Act.put]
theorem put_defers (a : Act) (x : Option Tmp) (v : Value) : (a.put x v).defers = a.defers := by
 cases x <;> rfl
theorem put_at (a : Act) (d : Tmp) (v : Value) : (a.put (some d) v).tmps[d]? = if d < a.tmps.size then some v else none := by
 simp only [Act.put]
 split
 ·rename_i h
  simp [h]
 ·rename_i h
  exact Array.getElem?_eq_none (by rw [Array.size_setIfInBounds]; exact Nat.le_of_not_lt h)

def pickQ (wl : List (Nat × Tmp)) : Nat → List Oper → List Oper
 | _, [] => []
 | k, o :: l => if wl.any (fun x => x.1 == k) then pickQ wl (k + 1) l else o :: pickQ wl (k + 1) l
theorem quiet_cons {C : World → Prop} {K : Act → Prop} {k : Nat} {o : Oper} {l : List Oper} {a : Act} (h0 : ops[k]? = some o) (h : wpQuiet P ops C K (o :: l) a) : ∃ v, YieldsIn P ops C o v a ∧ wpQuiet P ops C K l (a.put o.dst v) :=
 yieldsIn_of_qOp (C := C) (K := wpQuiet P ops C K l) h0 (by unfold qOp; simp only [h0]; exact h)

theorem quiet_kept {C : World → Prop} {A : Act} {wl : List (Nat × Tmp)} (l : List Oper) : ∀ (k : Nat) (a : Act), (∀ j, j < l.length → l[j]? = ops[k + j]?) → wpQuiet P ops C (fun a' => a' = A) (pickQ wl k l) a →
  A.tmps.size = a.tmps.size ∧ A.defers = a.defers ∧ ∀ d, (∀ i, k ≤ i → i < k + l.length → wl.any (fun x => x.1 == i) = false → dstOf ops i ≠ some d) → A.tmps[d]? = a.tmps[d]? := by
 induction l with
 | nil =>
  intro k a _ h
  have h' : a = A := h
  subst h'
  exact ⟨rfl, rfl, fun _ _ => rfl⟩
 | cons o l ih =>
  intro k a hl h
  have h0 : ops[k]? = some o := by simpa using (hl 0 (by simp)).symm
  have hl' : ∀ j, j < l.length → l[j]? = ops[k + 1 + j]? := fun j hj => by
   have := hl (j + 1) (by simp; omega)
   simpa [Nat.add_assoc, Nat.add_comm 1 j] using this
  unfold pickQ at h
  by_cases hk : wl.any (fun x => x.1 == k) = true
  ·rw [if_pos hk] at h
   obtain ⟨h1, h2, h3⟩ := ih (k + 1) a hl' h
   exact ⟨h1, h2, fun d hd => h3 d fun i hi hi2 hw => hd i (by omega) (by simp; omega) hw⟩
  ·rw [if_neg hk] at h
   obtain ⟨v, hy, hr⟩ := quiet_cons h0 h
   obtain ⟨h1, h2, h3⟩ := ih (k + 1) _ hl' hr
   refine ⟨by rw [h1, put_size], by rw [h2, put_defers], fun d hd => ?_⟩
   rw [h3 d fun i hi hi2 hw => hd i (by omega) (by simp; omega) hw]
   have := hd k (Nat.le_refl _) (by simp) (by simpa only [Bool.not_eq_true] using hk)
   refine put_other fun e => this ?_
   unfold dstOf
   rw [h0]
   exact e

theorem quiet_at {C : World → Prop} {A : Act} {n lt : Nat} {wl : List Wd} (ok : WildOk ops n lt wl) (l : List Oper) : ∀ (k : Nat) (a : Act), (∀ j, j < l.length → l[j]? = ops[k + j]?) → k + l.length = n →
  wpQuiet P ops C (fun a' => a' = A) (pickQ (wl.map fun x => (x.i, x.d)) k l) a → ∀ i o, k ≤ i → i < n → (∀ x ∈ wl, x.i ≠ i) → ops[i]? = some o →
  ∃ ai v, YieldsIn P ops C o v ai ∧ AgreeOn (o.looksAt ops) ai A ∧ (∀ d, dstOf ops i = some d → A.tmps[d]? = (ai.put (some d) v).tmps[d]?) ∧ ai.tmps.size = A.tmps.size := by
 induction l with
 | nil =>
  intro k a _ hk _ i o h1 h2
  simp at hk
  omega
 | cons o' l ih =>
  intro k a hl hk h i o h1 h2 hni hi
  have hw := h
  have h0 : ops[k]? = some o' := by simpa using (hl 0 (by simp)).symm
  have hl' : ∀ j, j < l.length → l[j]? = ops[k + 1 + j]? := fun j hj => by
   have := hl (j + 1) (by simp; omega)
   simpa [Nat.add_assoc, Nat.add_comm 1 j] using this
  have hk' : k + 1 + l.length = n := by
   simp at hk
   omega
  unfold pickQ at h
  by_cases hkw : (wl.map fun x => (x.i, x.d)).any (fun x => x.1 == k) = true
  ·rw [if_pos hkw] at h
   have hne : i ≠ k := fun e => by
    subst e
    obtain ⟨y, hy, hyi⟩ := List.any_eq_true.1 hkw
    obtain ⟨z, hz, rfl⟩ := List.mem_map.1 hy
    exact hni z hz (by simpa using hyi)
   exact ih (k + 1) a hl' hk' h i o (by omega) h2 hni hi
  ·rw [if_neg hkw] at h
   obtain ⟨v, hy, hr⟩ := quiet_cons h0 h
   by_cases hik : i = k
   ·subst hik
    have : o' = o := Option.some.inj (h0.symm.trans hi)
    subst this
    obtain ⟨s1, _, s3⟩ := quiet_kept _ _ _ hl hw
    obtain ⟨_, _, r3⟩ := quiet_kept _ _ _ hl' hr
    refine ⟨a, v, hy, fun d hd => (s3 d fun j hj hj2 _ he => ?_).symm, fun d hd => ?_, s1.symm⟩
    ·have := (ok.reads i o' h2 hi j d (by omega) he hd).1
     omega
    ·have hdst : o'.dst = some d := by
      unfold dstOf at hd
      rw [h0] at hd
      exact hd
     rw [hdst] at r3
     exact r3 d fun j hj hj2 _ he => ok.dist j i (by omega) h2 (by omega) (by rw [he, hd])
   ·exact ih (k + 1) _ hl' hk' hr i o (by omega) h2 hni hi

def putsF (A : Act) (wl : List Wd) (vs : Nat → Value) : Act := wl.foldl (fun a x => a.put (some x.d) (vs x.i)) A
theorem putsF_defers (wl : List Wd) (vs : Nat → Value) : ∀ A : Act, (putsF A wl vs).defers = A.defers := by
 induction wl with
 | nil => exact fun _ => rfl
 | cons x wl ih => exact fun A => (ih _).trans (put_defers _ _ _)
theorem putsF_other (wl : List Wd) (vs : Nat → Value) (d : Tmp) (h : ∀ x ∈ wl, x.d ≠ d) : ∀ A : Act, (putsF A wl vs).tmps[d]? = A.tmps[d]? := by
 induction wl with
 | nil => exact fun _ => rfl
 | cons x wl ih =>
  intro A
  show (putsF (A.put (some x.d) (vs x.i)) wl vs).tmps[d]? = _
  rw [ih (fun y hy => h y (List.mem_cons_of_mem _ hy))]
  exact put_other fun e => h x (by simp) (Option.some.inj e)
theorem putsF_at (wl : List Wd) (vs : Nat → Value) (x : Wd) (hx : x ∈ wl) (hd : ∀ y ∈ wl, y.d = x.d → y.i = x.i) : ∀ A : Act, (putsF A wl vs).tmps[x.d]? = if x.d < A.tmps.size then some (vs x.i) else none := by
 induction wl with
 | nil => cases hx
 | cons y wl ih =>
  intro A
  show (putsF (A.put (some y.d) (vs y.i)) wl vs).tmps[x.d]? = _
  by_cases hin : x ∈ wl
  ·rw [ih hin (fun z hz => hd z (List.mem_cons_of_mem _ hz)), put_size]
  ·have hxy : x = y := by
    rcases List.mem_cons.1 hx with h | h
    ·exact h
    ·exact absurd h hin
   subst hxy
   by_cases hex : ∃ z ∈ wl, z.d = x.d
   ·obtain ⟨z, hz, hzd⟩ := hex
    have hzi := hd z (List.mem_cons_of_mem _ hz) hzd
    have := ih
    clear ih hx
    have key : ∀ (l : List Wd), (∀ y ∈ l, y.d = x.d → y.i = x.i) → (∃ z ∈ l, z.d = x.d) → ∀ B : Act, (putsF B l vs).tmps[x.d]? = if x.d < B.tmps.size then some (vs x.i) else none := by
     intro l
     induction l with
     | nil => exact fun _ ⟨z, hz, _⟩ => by cases hz
     | cons u l ih2 =>
      intro h1 h2 B
      show (putsF (B.put (some u.d) (vs u.i)) l vs).tmps[x.d]? = _
      by_cases h3 : ∃ z ∈ l, z.d = x.d
      ·rw [ih2 (fun y hy => h1 y (List.mem_cons_of_mem _ hy)) h3, put_size]
      ·rw [putsF_other l vs x.d (fun y hy e => h3 ⟨y, hy, e⟩)]
       obtain ⟨z, hz, hzd⟩ := h2
       have hzu : z = u := by
        rcases List.mem_cons.1 hz with h | h
        ·exact h
        ·exact absurd ⟨z, h, hzd⟩ h3
       subst hzu
       rw [hzd, h1 z (by simp) hzd, put_at]
    rw [key wl (fun y hy => hd y (List.mem_cons_of_mem _ hy)) ⟨z, hz, hzd⟩, put_size]
   ·rw [putsF_other wl vs x.d (fun z hz e => hex ⟨z, hz, e⟩), put_at]
def wildUpon (P : Program) (w : World) (R : Value → World → Prop) (N : Value → List Nat) : Result Next → Prop
 | .ok (.value v) w' => R v w' ∧ Below w.heap.size w w' ∧ ∀ b ∈ N v, w.heap.size ≤ b ∧ b < w'.heap.size
 | .ok (.enter f args) w' => w' = w ∧ Calls P f args w fun e w'' => ∃ v, e = .returned v ∧ R v w'' ∧ Below w.heap.size w w'' ∧ ∀ b ∈ N v, w.heap.size ≤ b ∧ b < w''.heap.size
 | _ => False
def wildPost (w : World) (R : Value → World → Prop) (N : Value → List Nat) (e : Ending) (w'' : World) : Prop := ∃ v, e = .returned v ∧ R v w'' ∧ Below w.heap.size w w'' ∧ ∀ b ∈ N v, w.heap.size ≤ b ∧ b < w''.heap.size
theorem wildUpon_enter {w : World} {R : Value → World → Prop} {N : Value → List Nat} {f : FuncId} {args : Array Value} (h : Calls P f args w (wildPost w R N)) : wildUpon P w R N (.ok (.enter f args) w) := ⟨rfl, h⟩
theorem wp_of_wild {o : Oper} {a : Act} {w : World} {R : Value → World → Prop} {N : Value → List Nat} {K : Act → World → Prop} {Q : Exit → Act → World → Prop} (h : wildUpon P w R N ((execOp a.eval o).run P w))
  (hK : ∀ v w', R v w' → Below w.heap.size w w' → (∀ b ∈ N v, w.heap.size ≤ b ∧ b < w'.heap.size) → K (a.put o.dst v) w') : o.wp P a w K Q := by
 unfold Oper.wp
 generalize (execOp a.eval o).run P w = r at *
 cases r with
 | ok nx w' =>
  cases nx <;> simp only [wildUpon] at h <;> simp only [Oper.upon]
  case value v => exact hK v w' h.1 h.2.1 h.2.2
  case enter f args =>
   obtain ⟨rfl, hc⟩ := h
   exact hc.mono fun e w'' ⟨v, he, h1, h2, h3⟩ => by
    subst he
    exact hK v w'' h1 h2 h3
 | halt x w' => simp only [wildUpon] at h

def Wd.RL (x : Wd) (vs : Nat → Value) (v : Value) (w : World) : Prop := x.R v w ∧ x.L (x.D.map vs) v
def wildAt (P : Program) (ops : Array Oper) (W : World) (A : Act) (wl : List Wd) (x : Wd) (o : Oper) : Prop :=
 ∀ (vs : Nat → Value) (w' : World), Below W.heap.size W w' → (∀ y ∈ wl, y.d ∈ o.looksAt ops → y.R (vs y.i) w') →
  Region.wanted o (yielded ops (putsF A wl vs).tmps) = true ∧ wildUpon P w' (x.RL vs) x.N ((execOp (putsF A wl vs).eval o).run P w')
theorem wild_plain {w : World} {i : Nat} {d : Tmp} {R : Value → World → Prop} {N M : Value → List Nat} {r : Result Next} {vs : Nat → Value} (h : wildUpon P w R M r) : wildUpon P w (Wd.RL { i := i, d := d, R := R, N := N } vs) M r := by
 cases r with
 | ok nx w' =>
  cases nx <;> simp only [wildUpon] at h ⊢
  case value v => exact ⟨⟨h.1, trivial⟩, h.2⟩
  case enter f args =>
   obtain ⟨rfl, hc⟩ := h
   exact ⟨rfl, hc.mono fun e w'' ⟨v, he, h1, h2⟩ => ⟨v, he, ⟨h1, trivial⟩, h2⟩⟩
 | halt x w' => exact h
theorem wild_link {w : World} {i : Nat} {d : Tmp} {R : Value → World → Prop} {N M : Value → List Nat} {D : List Nat} {L : List Value → Value → Prop} {r : Result Next} {vs : Nat → Value} (h : wildUpon P w (fun v w => R v w ∧ L (D.map vs) v) M r) : wildUpon P w (Wd.RL { i := i, d := d, R := R, N := N, D := D, L := L } vs) M r := h

structure WInv (ops : Array Oper) (W : World) (A : Act) (wl : List Wd) (n : Nat) (listed : Array Bool) (a : Act) (w : World) (vs : Nat → Value) : Prop where
 head : HeadInv .any ops n listed
 be : Below W.heap.size W w
 size : a.tmps.size = A.tmps.size
 defers : a.defers = A.defers
 slots : ∀ d, (∀ i, i < n → dstOf ops i = some d → listed.getD i false = true) → a.tmps[d]? = (putsF A wl vs).tmps[d]?
 rel : ∀ x ∈ wl, listed.getD x.i false = true → x.R (vs x.i) w ∧ ∀ b ∈ x.N (vs x.i), W.heap.size ≤ b ∧ b < w.heap.size
 apart : ∀ x ∈ wl, ∀ y ∈ wl, x.i ≠ y.i → listed.getD x.i false = true → listed.getD y.i false = true → ∀ b ∈ x.N (vs x.i), b ∉ y.N (vs y.i)
 link : ∀ x ∈ wl, listed.getD x.i false = true → x.L (x.D.map vs) (vs x.i)

theorem tail_waitsL {n lt : Nat} {listed : Array Bool} (hs : sinkL ops n lt = true) (hc : Region.chainB .any ops n = true) (hn : n < ops.size) (inv : HeadInv .any ops n listed) :
  ∀ (d i : Nat), n - i = d → i < n → i ≠ lt → listed.getD i true = false → ∀ t, n ≤ t → t ∉ Region.ready .any ops listed := by
 intro d
 induction d using Nat.strongRecOn with
 | _ d ih =>
  intro i hd hi hne hun t ht hr
  obtain ⟨_, ot, hot, hall⟩ := mem_ready.1 hr
  have htlt : t < ops.size := (Array.getElem?_eq_some_iff.1 hot).1
  by_cases htn : t = n
  ·subst htn
   have h1 := List.all_eq_true.1 hs i (List.mem_range.2 hi)
   simp only [Bool.or_eq_true, beq_iff_eq, hne, false_or] at h1
   obtain ⟨j, hj, hj2⟩ := List.any_eq_true.1 h1
   simp only [Bool.and_eq_true, decide_eq_true_eq, bne_iff_ne] at hj2
   obtain ⟨oj, hoj, e, he, hb, hon⟩ := Region.waitsFor_spec hj2.2
   have hjle : j ≤ t := by have := List.mem_range.1 hj; omega
   by_cases hjt : j = t
   ·subst hjt
    have : oj = ot := Option.some.inj (hoj.symm.trans hot)
    subst this
    have h2 := hall e he hb
    rw [hon, getD_both hun] at h2
    cases h2
   ·cases hl : listed.getD j false with
    | true =>
     have h2 := inv.closed j oj hoj hl e he hb
     rw [hon, getD_both hun] at h2
     cases h2
    | false =>
     have hjs : j < listed.size := by rw [inv.size]; omega
     exact ih (t - j) (by omega) j rfl (by omega) hj2.1.2 (getD_in hjs hl) t (Nat.le_refl _) hr
  ·have h1 := List.all_eq_true.1 hc t (List.mem_range.2 htlt)
   simp only [Bool.or_eq_true, decide_eq_true_eq] at h1
   rcases h1 with h1 | h1
   ·omega
   ·obtain ⟨o', ho', e, he, hb, hon⟩ := Region.waitsFor_spec h1
    have : o' = ot := Option.some.inj (ho'.symm.trans hot)
    subst this
    have h2 := hall e he hb
    rw [hon, getD_both (inv.tail (t - 1) (by omega) (by omega))] at h2
    cases h2

theorem first_ready {n lt : Nat} {wl : List Wd} (ok : WildOk ops n lt wl) {listed : Array Bool} : ∀ (m i : Nat), i ≤ m → i < n → listed.getD i false = false → listed.size = ops.size → ∃ j, j < n ∧ j ∈ Region.ready .any ops listed := by
 intro m
 induction m with
 | zero =>
  intro i hi hin hl hs
  obtain rfl : i = 0 := by omega
  obtain ⟨o, ho⟩ : ∃ o, ops[0]? = some o := ⟨_, Array.getElem?_eq_getElem (by have := ok.hn; omega)⟩
  exact ⟨0, hin, mem_ready.2 ⟨getD_in (by rw [hs]; have := ok.hn; omega) hl, o, ho, fun e he hb => by have := ok.back 0 o hin ho e he hb; omega⟩⟩
 | succ m ih =>
  intro i hi hin hl hs
  obtain ⟨o, ho⟩ : ∃ o, ops[i]? = some o := ⟨_, Array.getElem?_eq_getElem (by have := ok.hn; omega)⟩
  by_cases hall : ∀ e ∈ o.after, Region.binds .any e = true → listed.getD e.on false = true
  ·exact ⟨i, hin, mem_ready.2 ⟨getD_in (by rw [hs]; have := ok.hn; omega) hl, o, ho, hall⟩⟩
  ·have : ∃ e ∈ o.after, Region.binds .any e = true ∧ listed.getD e.on false = false := Classical.byContradiction fun hno => hall fun e he hb => by
    cases hq : listed.getD e.on false with
    | true => rfl
    | false => exact absurd ⟨e, he, hb, hq⟩ hno
   obtain ⟨e, he, hb, hq⟩ := this
   have hlt := ok.back i o hin ho e he hb
   exact ih e.on (by omega) (by omega) hq hs

theorem any_of_wild {n lt g : Nat} {W : World} {A a0 : Act} {wl : List Wd} {Q : Exit → Act → World → Prop} {l : List Oper} (ok : WildOk ops n lt wl) (hl : ∀ j, j < l.length → l[j]? = ops[0 + j]?) (hln : 0 + l.length = n) (hQ : ∀ c (a : Act) (d : Tmp) v w, Q (.panic c) (a.put (some d) v) w → Q (.panic c) a w)
  (hst : ∀ x ∈ wl, ∀ v w w', x.R v w → Below w.heap.size w w' → x.R v w')
  (hquiet : ∀ S, Keeps S → Nonempty (ExtS W S) → wpQuiet P ops (CS W S) (fun a' => a' = A) (pickQ (wl.map fun x => (x.i, x.d)) 0 l) a0)
  (hwild : ∀ x ∈ wl, ∀ o, ops[x.i]? = some o → wildAt P ops W A wl x o) (hlate : ∀ x ∈ wl, x.i = lt → ∀ o, ops[x.i]? = some o → ∀ vs w', Below W.heap.size W w' → (∀ y ∈ wl, y.d ∈ o.looksAt ops → y.R (vs y.i) w') → ∃ v, ∀ u, (execOp (putsF A wl vs).eval o).run P u = .ok (.value v) u)
  (hend : ∀ (vs : Nat → Value) (w' : World), Below W.heap.size W w' → (∀ x ∈ wl, x.R (vs x.i) w' ∧ ∀ b ∈ x.N (vs x.i), W.heap.size ≤ b ∧ b < w'.heap.size) → (∀ x ∈ wl, ∀ y ∈ wl, x.i ≠ y.i → ∀ b ∈ x.N (vs x.i), b ∉ y.N (vs y.i)) → (∀ x ∈ wl, x.L (x.D.map vs) (vs x.i)) →
   wpAny P .any ops Q g (headDone ops n) (putsF A wl vs) w') (f : Nat) :
  ∀ (listed : Array Bool) (a : Act) (w : World) (vs : Nat → Value), WInv ops W A wl n listed a w vs → ((List.range n).filter fun i => !listed.getD i false).length = f → wpAny P .any ops Q (f + g) listed a w := by
 have hdw : ∀ x ∈ wl, ∀ y ∈ wl, y.d = x.d → y.i = x.i := fun x hx y hy e => Classical.byContradiction fun hne => ok.dist y.i x.i (ok.wlt y hy).1 (ok.wlt x hx).1 hne (by rw [(ok.wlt y hy).2, (ok.wlt x hx).2, e])
 induction f with
 | zero =>
  intro listed a w vs inv hf
  have hall : ∀ i, i < n → listed.getD i false = true := fun i hi => by
   cases hq : listed.getD i false with
   | true => rfl
   | false =>
    have : i ∈ (List.range n).filter fun i => !listed.getD i false := List.mem_filter.2 ⟨List.mem_range.2 hi, by rw [hq]; rfl⟩
    rw [List.length_eq_zero_iff.1 hf] at this
    cases this
  have hlisted : listed = headDone ops n := by
   refine Array.ext (by simp [headDone, inv.head.size]) fun i h1 h2 => ?_
   simp only [headDone, List.getElem_toArray, List.getElem_map, List.getElem_range]
   by_cases hin : i < n
   ·have := hall i hin
    simp [h1] at this
    simp [this, hin]
   ·have := inv.head.tail i (by omega) (by rw [← inv.head.size]; exact h1)
    simp [h1] at this
    simp [this, hin]
  have ha : a = putsF A wl vs := by
   have h1 : a.tmps = (putsF A wl vs).tmps := Array.ext_getElem? fun d => inv.slots d fun i hi _ => hall i hi
   have h2 : a.defers = (putsF A wl vs).defers := by rw [inv.defers, putsF_defers]
   cases a
   cases hp : putsF A wl vs
   rw [hp] at h1 h2
   simp only at h1 h2
   rw [h1, h2]
  rw [Nat.zero_add, hlisted, ha]
  exact hend vs w inv.be (fun x hx => inv.rel x hx (hall _ (ok.wlt x hx).1)) (fun x hx y hy hne => inv.apart x hx y hy hne (hall _ (ok.wlt x hx).1) (hall _ (ok.wlt y hy).1)) (fun x hx => inv.link x hx (hall _ (ok.wlt x hx).1))
 | succ f ih =>
  intro listed a w vs inv hf
  rw [show f + 1 + g = (f + g) + 1 by omega]
  obtain ⟨i0, hi0, hl0⟩ : ∃ i, i < n ∧ listed.getD i false = false := by
   cases hq : (List.range n).filter fun i => !listed.getD i false with
   | nil =>
    rw [hq] at hf
    simp at hf
   | cons i t =>
    have : i ∈ (List.range n).filter fun i => !listed.getD i false := by rw [hq]; simp
    obtain ⟨h1, h2⟩ := List.mem_filter.1 this
    exact ⟨i, List.mem_range.1 h1, by simpa using h2⟩
  have hlt0 : i0 < listed.size := by rw [inv.head.size]; have := ok.hn; omega
  obtain ⟨j0, hj0n, hj0⟩ := first_ready ok i0 i0 (Nat.le_refl _) hi0 hl0 inv.head.size
  have main : ∀ i, i ∈ Region.ready .any ops listed → i < n → wpOp P ops Q i (wpAny P .any ops Q (f + g) (listed.setIfInBounds i true)) a w ∧
    (∀ x ∈ wl, x.i = i → i = lt → ∃ o v, ops[i]? = some o ∧ Yields P ops o v a ∧ wpAny P .any ops Q (f + g) (listed.setIfInBounds i true) (a.put o.dst v) w) := ?_
  ·by_cases hall : ∀ i, i < n → i ≠ lt → listed.getD i false = true
   ·have hj0l : j0 = lt := Classical.byContradiction fun hne => by
     have h1 := hall j0 hj0n hne
     rw [getD_both (mem_ready.1 hj0).1] at h1
     cases h1
    subst hj0l
    obtain ⟨hfree, x, hx, hxi⟩ := ok.late hj0n
    have hlisted : listed = lateDone ops n j0 := by
     refine Array.ext (by simp [lateDone, inv.head.size]) fun i h1 h2 => ?_
     simp only [lateDone, List.getElem_toArray, List.getElem_map, List.getElem_range]
     by_cases hin : i < n
     ·by_cases hij : i = j0
      ·subst hij
       have := (mem_ready.1 hj0).1
       simp [h1] at this
       simp [this]
      ·have := hall i hin hij
       simp [h1] at this
       simp [this, hin, hij]
     ·have := inv.head.tail i (by omega) (by rw [← inv.head.size]; exact h1)
      simp [h1] at this
      simp [this, hin]
    obtain ⟨o, v, ho, hy, hk⟩ := (main j0 hj0 hj0n).2 x hx hxi rfl
    rw [← hlisted] at hfree
    have hdst : ∃ d, o.dst = some d := by
     obtain ⟨d, hd⟩ := ok.dst j0 hj0n
     unfold dstOf at hd
     rw [ho] at hd
     exact ⟨d, hd⟩
    obtain ⟨d, hd⟩ := hdst
    exact wpAny_first ho ok.sel (fun c a' w' => by rw [hd]; exact hQ c a' d v w') (f + g) listed a w (Region.free_spec ho hfree) hj0 hy hk
   ·have hex : ∃ i, i < n ∧ i ≠ lt ∧ listed.getD i false = false := Classical.byContradiction fun hno => hall fun i h1 h2 => by
     cases hq : listed.getD i false with
     | true => rfl
     | false => exact absurd ⟨i, h1, h2, hq⟩ hno
    obtain ⟨i1, hi1, hi1l, hl1⟩ := hex
    have hlt1 : i1 < listed.size := by rw [inv.head.size]; have := ok.hn; omega
    refine ⟨fun h0 => (by rw [h0] at hj0; cases hj0), fun i hi => ?_⟩
    have hin : i < n := Nat.lt_of_not_le fun hle => tail_waitsL ok.sink ok.chain ok.hn inv.head _ i1 rfl hi1 hi1l (getD_in hlt1 hl1) i hle hi
    exact (main i hi hin).1
  intro i hi hin
  obtain ⟨hun, o, ho, hall⟩ := mem_ready.1 hi
  have hil : i < listed.size := by rw [inv.head.size]; have := ok.hn; omega
  have hset : ∀ j, (listed.setIfInBounds i true).getD j false = true ↔ j = i ∨ listed.getD j false = true := fun j => by
   by_cases e : i = j
   ·subst e
    simp [hil]
   ·rw [getD_set_ne false e]
    constructor
    ·exact .inr
    ·rintro (h | h)
     ·exact absurd h.symm e
     ·exact h
  have hcount : ((List.range n).filter fun j => !(listed.setIfInBounds i true).getD j false).length = f := by
   have hsub : (List.range n).filter (fun j => !(listed.setIfInBounds i true).getD j false) = ((List.range n).filter fun j => !listed.getD j false).filter (fun j => j != i) := by
    rw [List.filter_filter]
    refine List.filter_congr fun j _ => ?_
    by_cases e : j = i
    ·subst e
     simp [hil]
    ·rw [getD_set_ne false (Ne.symm e)]
     simp [e]
   have hnd : ((List.range n).filter fun j => !listed.getD j false).Nodup := List.nodup_range.filter _
   have hmem : i ∈ (List.range n).filter fun j => !listed.getD j false := List.mem_filter.2 ⟨List.mem_range.2 hin, by rw [getD_both hun]; rfl⟩
   have := List.Nodup.erase_eq_filter hnd i
   rw [hsub, ← this, List.length_erase_of_mem hmem, hf]
   rfl
  have hag : AgreeOn (o.looksAt ops) a (putsF A wl vs) := fun d hd => inv.slots d fun j hj hjd => by
   obtain ⟨_, e, he, hb, rfl⟩ := ok.reads i o hin ho j d hj hjd hd
   exact hall e he hb
  have hdi : ∃ d, o.dst = some d ∧ dstOf ops i = some d := by
   obtain ⟨d, hd⟩ := ok.dst i hin
   refine ⟨d, ?_, hd⟩
   unfold dstOf at hd
   rw [ho] at hd
   exact hd
  obtain ⟨d, hod, hdd⟩ := hdi
  by_cases hw : ∃ x ∈ wl, x.i = i
  ·obtain ⟨x, hx, rfl⟩ := hw
   have hxd : x.d = d := Option.some.inj ((ok.wlt x hx).2.symm.trans hdd)
   obtain ⟨hwant, hup⟩ := hwild x hx o ho vs w inv.be fun y hy hyl => (inv.rel y hy (by
    obtain ⟨_, e, he, hb, hon⟩ := ok.reads x.i o hin ho y.i y.d (ok.wlt y hy).1 (ok.wlt y hy).2 hyl
    rw [← hon]
    exact hall e he hb)).1
   rw [← wanted_agree hag] at hwant
   rw [← exec_agree (ops := ops) (fun cs b => ok.sel x.i o cs b ho) hag] at hup
   have step : ∀ v w', x.RL vs v w' → Below w.heap.size w w' → (∀ b ∈ x.N v, w.heap.size ≤ b ∧ b < w'.heap.size) → wpAny P .any ops Q (f + g) (listed.setIfInBounds x.i true) (a.put o.dst v) w' := ?_
   ·refine ⟨?_, fun y hy hyi hlt => ?_⟩
    ·unfold wpOp
     simp only [ho, hwant, if_true]
     exact .inl (wp_of_wild hup step)
    ·obtain ⟨v, hv⟩ := hlate x hx hlt o ho vs w inv.be fun y hy hyl => (inv.rel y hy (by
      obtain ⟨_, e, he, hb, hon⟩ := ok.reads x.i o hin ho y.i y.d (ok.wlt y hy).1 (ok.wlt y hy).2 hyl
      rw [← hon]
      exact hall e he hb)).1
     have hv' : ∀ u, (execOp a.eval o).run P u = .ok (.value v) u := fun u => by
      rw [exec_agree (ops := ops) (fun cs b => ok.sel x.i o cs b ho) hag]
      exact hv u
     rw [hv' w] at hup
     exact ⟨o, v, ho, .inl ⟨hwant, hv'⟩, step v w hup.1 hup.2.1 hup.2.2⟩
   intro v w' hRL hB hN
   obtain ⟨hR, hL⟩ := hRL
   refine ih _ _ _ (fun j => if j = x.i then v else vs j) ⟨inv.head.set hi hin, inv.be.trans (hB.mono inv.be.size), by rw [put_size, inv.size], by rw [put_defers, inv.defers], fun e he => ?_, fun y hy hyl => ?_, fun y hy z hz hne hyl hzl => ?_, fun y hy hyl => ?_⟩ hcount
   ·rw [hod]
    by_cases hed : e = d
    ·subst hed
     have hat := putsF_at wl (fun j => if j = x.i then v else vs j) x hx (fun y hy => hdw x hx y hy) A
     rw [hxd] at hat
     rw [put_at, inv.size, hat]
     simp
    ·rw [put_other (fun h => hed (Option.some.inj h).symm)]
     have h1 := inv.slots e fun j hj hjd => by
      have := (hset j).1 (he j hj hjd)
      rcases this with rfl | h
      ·rw [hdd] at hjd
       exact absurd (Option.some.inj hjd).symm hed
      ·exact h
     rw [h1]
     by_cases hew : ∃ y ∈ wl, y.d = e
     ·obtain ⟨y, hy, rfl⟩ := hew
      rw [putsF_at wl vs y hy (fun z hz => hdw y hy z hz), putsF_at wl _ y hy (fun z hz => hdw y hy z hz)]
      have : y.i ≠ x.i := fun h => hed (by
       have h1 := (ok.wlt y hy).2
       rw [h, (ok.wlt x hx).2] at h1
       rw [← hxd]
       exact (Option.some.inj h1).symm)
      simp [this]
     ·rw [putsF_other wl vs e (fun y hy h => hew ⟨y, hy, h⟩), putsF_other wl _ e (fun y hy h => hew ⟨y, hy, h⟩)]
   ·by_cases hyx : y.i = x.i
    ·have hyx2 := ok.uniq y hy x hx hyx
     subst hyx2
     simp only [if_true]
     exact ⟨hR, fun b hb => ⟨Nat.le_trans inv.be.size (hN b hb).1, (hN b hb).2⟩⟩
    ·have h1 := inv.rel y hy (by
      rcases (hset y.i).1 hyl with h | h
      ·exact absurd h hyx
      ·exact h)
     simp only [hyx, if_false]
     exact ⟨hst y hy _ _ _ h1.1 hB, fun b hb => ⟨(h1.2 b hb).1, Nat.lt_of_lt_of_le (h1.2 b hb).2 hB.size⟩⟩
   ·by_cases hyx : y.i = x.i
    ·have hyx2 := ok.uniq y hy x hx hyx
     subst hyx2
     have hzx : z.i ≠ y.i := Ne.symm hne
     have hzl' : listed.getD z.i false = true := by
      rcases (hset z.i).1 hzl with h | h
      ·exact absurd h hzx
      ·exact h
     simp only [if_true, hzx, if_false]
     intro b hb hbz
     have h1 := (hN b hb).1
     have h2 := ((inv.rel z hz hzl').2 b hbz).2
     omega
    ·have hyl' : listed.getD y.i false = true := by
      rcases (hset y.i).1 hyl with h | h
      ·exact absurd h hyx
      ·exact h
     by_cases hzx : z.i = x.i
     ·have hzx2 := ok.uniq z hz x hx hzx
      subst hzx2
      simp only [if_true, hyx, if_false]
      intro b hb hbz
      have h1 := (hN b hbz).1
      have h2 := ((inv.rel y hy hyl').2 b hb).2
      omega
     ·have hzl' : listed.getD z.i false = true := by
       rcases (hset z.i).1 hzl with h | h
       ·exact absurd h hzx
       ·exact h
      simp only [hyx, hzx, if_false]
      exact inv.apart y hy z hz hne hyl' hzl'
   ·have hdl : ∀ j ∈ y.D, j ≠ x.i := fun j hj e => by
     have hyo : ∃ oy, ops[y.i]? = some oy := ⟨_, Array.getElem?_eq_getElem (by have := ok.hn; have := (ok.wlt y hy).1; omega)⟩
     obtain ⟨oy, hoy⟩ := hyo
     obtain ⟨ed, hed, hb, hon⟩ := ok.deps y hy j hj oy hoy
     by_cases hyx : y.i = x.i
     ·have : oy = o := by
       rw [hyx, ho] at hoy
       exact (Option.some.inj hoy).symm
      subst this
      have := ok.back x.i oy hin ho ed hed hb
      omega
     ·have hyl' : listed.getD y.i false = true := by
       rcases (hset y.i).1 hyl with h | h
       ·exact absurd h hyx
       ·exact h
      have := inv.head.closed y.i oy hoy hyl' ed hed hb
      rw [hon, e, getD_both hun] at this
      cases this
    have hmap : y.D.map (fun j => if j = x.i then v else vs j) = y.D.map vs := List.map_congr_left fun j hj => by rw [if_neg (hdl j hj)]
    rw [hmap]
    by_cases hyx : y.i = x.i
    ·have hyx2 := ok.uniq y hy x hx hyx
     subst hyx2
     simp only [if_true]
     exact hL
    ·have hyl' : listed.getD y.i false = true := by
      rcases (hset y.i).1 hyl with h | h
      ·exact absurd h hyx
      ·exact h
     simp only [hyx, if_false]
     exact inv.link y hy hyl'
  ·have hni : ∀ x ∈ wl, x.i ≠ i := fun x hx e => hw ⟨x, hx, e⟩
   have hS : Keeps (fun w' => ∀ x ∈ wl, listed.getD x.i false = true → x.R (vs x.i) w' ∧ ∀ b ∈ x.N (vs x.i), b < w'.heap.size) := fun w1 w2 h hb x hx hxl =>
    ⟨hst x hx _ _ _ (h x hx hxl).1 hb, fun b hb2 => Nat.lt_of_lt_of_le ((h x hx hxl).2 b hb2) hb.size⟩
   have hSw : ∀ x ∈ wl, listed.getD x.i false = true → x.R (vs x.i) w ∧ ∀ b ∈ x.N (vs x.i), b < w.heap.size := fun x hx hxl => ⟨(inv.rel x hx hxl).1, fun b hb => ((inv.rel x hx hxl).2 b hb).2⟩
   obtain ⟨ai, v, hy, hagi, hAd, hszi⟩ := quiet_at ok l 0 a0 hl hln (hquiet _ hS ⟨⟨w, inv.be, hSw⟩⟩) i o (Nat.zero_le _) hin hni ho
   have hag2 : AgreeOn (o.looksAt ops) a ai := fun e he => by
    rw [hag e he, putsF_other wl vs e (fun x hx h => ok.quiet i o hin ho hni x hx (by rw [h]; exact he))]
    exact (hagi e he).symm
   have hya : YieldsIn P ops _ o v a := hy.of_same (exec_agree (fun cs b => ok.sel i o cs b ho) hag2) (wanted_agree hag2)
   refine ⟨wpOp_of_qOp (K := fun a' => a' = a.put o.dst v) ⟨⟨w, inv.be, hSw⟩, rfl⟩ ?_ (hya.qOp ho rfl), fun x hx hxi => absurd hxi (hni x hx)⟩
   rintro a' w' ⟨y, rfl⟩ rfl
   have hrel : ∀ x ∈ wl, (listed.setIfInBounds i true).getD x.i false = true → listed.getD x.i false = true := fun x hx hxl => by
    rcases (hset x.i).1 hxl with h | h
    ·exact absurd h (hni x hx)
    ·exact h
   refine ih _ _ _ vs ⟨inv.head.set hi hin, y.2, by rw [put_size, inv.size], by rw [put_defers, inv.defers], fun e he => ?_, fun x hx hxl => ?_, fun x hx z hz hne hxl hzl => inv.apart x hx z hz hne (hrel x hx hxl) (hrel z hz hzl), fun x hx hxl => inv.link x hx (hrel x hx hxl)⟩ hcount
   ·rw [hod]
    by_cases hed : e = d
    ·subst hed
     rw [putsF_other wl vs e (fun x hx h => ok.dist x.i i (ok.wlt x hx).1 hin (hni x hx) (by rw [(ok.wlt x hx).2, hdd, h])), hAd e hdd, put_at, put_at, inv.size, hszi]
    ·rw [put_other (fun h => hed (Option.some.inj h).symm)]
     exact inv.slots e fun j hj hjd => by
      rcases (hset j).1 (he j hj hjd) with rfl | h
      ·rw [hdd] at hjd
       exact absurd (Option.some.inj hjd).symm hed
      ·exact h
   ·have := y.3 x hx (hrel x hx hxl)
    exact ⟨this.1, fun b hb => ⟨((inv.rel x hx (hrel x hx hxl)).2 b hb).1, this.2 b hb⟩⟩

def pickM : List Bool → List Oper → List Oper
 | _, [] => []
 | [], l => l
 | true :: m, _ :: l => pickM m l
 | false :: m, o :: l => o :: pickM m l
theorem mask_nil {m : List Bool} {C : World → Prop} {K : Act → Prop} {a : Act} (h : K a) : wpQuiet P ops C K (pickM m []) a := by
 cases m with
 | nil => exact h
 | cons b m => cases b <;> exact h
theorem mask_skip {m : List Bool} {o : Oper} {l : List Oper} {C : World → Prop} {K : Act → Prop} {a : Act} (h : wpQuiet P ops C K (pickM m l) a) : wpQuiet P ops C K (pickM (true :: m) (o :: l)) a := h
theorem mask_keep {m : List Bool} {o : Oper} {l : List Oper} {C : World → Prop} {K : Act → Prop} {a : Act} (h : wpQuiet P ops C K (o :: pickM m l) a) : wpQuiet P ops C K (pickM (false :: m) (o :: l)) a := h
theorem pickQ_mask (wl : List (Nat × Tmp)) (l : List Oper) : ∀ k, pickQ wl k l = pickM ((List.range' k l.length).map fun i => wl.any (fun x => x.1 == i)) l := by
 induction l with
 | nil => intro k; cases k <;> rfl
 | cons o l ih =>
  intro k
  rw [List.length_cons, List.range'_succ, List.map_cons]
  unfold pickQ
  cases h : wl.any (fun x => x.1 == k)
  ·rw [if_neg (by simp), ih (k + 1)]
   rfl
  ·rw [if_pos rfl, ih (k + 1)]
   rfl

theorem wp_region_wild {id : Nat} {Q : Exit → Act → World → Prop} {a : Act} {w : World} {l : List Oper} (n lt : Nat) (wl : List Wd) (mask : List Bool) (hmask : (List.range' 0 n).map (fun i => (wl.map fun x => (x.i, x.d)).any (fun x => x.1 == i)) = mask) (hm : P.follows .mixedOrders = true) (hB : wildB l.toArray n lt (wl.map fun x => (x.i, x.d)) = true) (hQ : ∀ c (a : Act) (d : Tmp) v w, Q (.panic c) (a.put (some d) v) w → Q (.panic c) a w) (hD : depB l.toArray (wl.map fun x => (x.i, x.D)) = true)
  (hst : ∀ x ∈ wl, ∀ v w w', x.R v w → Below w.heap.size w w' → x.R v w')
  (h : ∃ A : Act, (∀ S, Keeps S → Nonempty (ExtS w S) → wpQuiet P l.toArray (CS w S) (fun a' => a' = A) (pickM mask (l.take n)) a) ∧
   (∀ x ∈ wl, x.i = lt → ∀ o, l[x.i]? = some o → ∀ vs w', Below w.heap.size w w' → (∀ y ∈ wl, y.d ∈ o.looksAt l.toArray → y.R (vs y.i) w') → ∃ v, ∀ u, (execOp (putsF A wl vs).eval o).run P u = .ok (.value v) u) ∧
   (∀ x ∈ wl, ∀ o, l[x.i]? = some o → wildAt P l.toArray w A wl x o) ∧
   ∀ (vs : Nat → Value) (w' : World), Below w.heap.size w w' → (∀ x ∈ wl, x.R (vs x.i) w' ∧ ∀ b ∈ x.N (vs x.i), w.heap.size ≤ b ∧ b < w'.heap.size) → (∀ x ∈ wl, ∀ y ∈ wl, x.i ≠ y.i → ∀ b ∈ x.N (vs x.i), b ∉ y.N (vs y.i)) → (∀ x ∈ wl, x.L (x.D.map vs) (vs x.i)) →
    wpList P l.toArray Q (l.drop n) (putsF A wl vs) w') : (Code.region id l.toArray true).wp P Q a w := by
 obtain ⟨A, hq, hla, hwd, ht⟩ := h
 have ok := WildOk.of hB hD
 have hn' : n < l.length := by simpa using ok.hn
 have htl0 : (l.take n).length = n := by simp; omega
 have hpick : pickQ (wl.map fun x => (x.i, x.d)) 0 (l.take n) = pickM mask (l.take n) := by rw [pickQ_mask, htl0, hmask]
 rw [← hpick] at hq
 have htl : (l.take n).length = n := by simp; omega
 have hdl : (l.drop n).length = l.toArray.size - n := by simp
 refine wp_region_any hm ?_
 have hl0 : ∀ j, j < (l.take n).length → (l.take n)[j]? = l.toArray[0 + j]? := fun j hj => by
  rw [htl] at hj
  simp [hj]
 obtain ⟨k1, k2, k3⟩ := quiet_kept (l.take n) 0 a hl0 (hq (fun _ => True) (fun _ _ _ _ => trivial) ⟨⟨w, Below.refl _ _, trivial⟩⟩)
 have H := any_of_wild (g := l.toArray.size - n) (Q := Q) ok hl0 (by rw [Nat.zero_add, htl]) hQ hst hq (fun x hx o ho => hwd x hx o (by simpa using ho)) (fun x hx hxl o ho => hla x hx hxl o (by simpa using ho))
  (fun vs w' h1 h2 h3 h3l => by
   have := wpAny_of_seq (md := .any) (Q' := Q) (l.drop n) n (headDone l.toArray n) (putsF A wl vs) w' (fun j => by simp [List.getElem?_drop]) (by rw [hdl]; exact ok.seq) (ht vs w' h1 h2 h3 h3l)
   rwa [hdl] at this)
  n (Array.replicate l.toArray.size false) a { w with drawn := w.drawn + 1 } (fun _ => undef)
  ⟨⟨by simp, fun j oj _ hl => (by rw [getD_replicate_false] at hl; cases hl), fun t _ ht => getD_in (by simpa using ht) (getD_replicate_false _ _)⟩, (Below.refl _ _).drew, k1.symm, k2.symm, fun d hd => ?_, fun x hx hxl => (by rw [getD_replicate_false] at hxl; cases hxl), fun x hx y hy hne hxl => (by rw [getD_replicate_false] at hxl; cases hxl), fun x hx hxl => (by rw [getD_replicate_false] at hxl; cases hxl)⟩
  (by
   have : (List.range n).filter (fun i => !(Array.replicate l.toArray.size false).getD i false) = List.range n := List.filter_eq_self.2 fun i _ => by rw [getD_replicate_false]; rfl
   rw [this, List.length_range])
 ·rw [show n + (l.toArray.size - n) = l.toArray.size by have := ok.hn; omega] at H
  exact H
 ·have hno : ∀ i, i < n → dstOf l.toArray i ≠ some d := fun i hi he => by
   have := hd i hi he
   rw [getD_replicate_false] at this
   cases this
  rw [putsF_other wl _ d (fun x hx e => hno x.i (ok.wlt x hx).1 (by rw [(ok.wlt x hx).2, e]))]
  exact (k3 d fun i _ hi _ => hno i (by omega)).symm
end

def blkB : Value → List Nat
 | .pointer (some a) => [a.block]
 | .slice (some a) _ _ => [a.block]
 | _ => []
def blkA : Value → List Nat
 | .agg cs => cs.toList.flatMap blkB
 | v => blkB v
def newB : Value → List Nat
 | .tuple cs => cs.toList.flatMap blkA
 | v => blkA v
theorem newB_ptr (a : Addr) : newB (.pointer (some a)) = [a.block] := rfl
theorem newB_row (a : Addr) (n k : Nat) : newB (.slice (some a) n k) = [a.block] := rfl
theorem newB_win (a : Addr) (n k : Nat) : newB (.agg #[.slice (some a) n k]) = [a.block] := rfl
theorem newB_win2 (a b : Addr) (n k m l : Nat) : newB (.agg #[.slice (some a) n k, .slice (some b) m l]) = [a.block, b.block] := rfl
def isAny (_ : Value) (_ : World) : Prop := True
theorem isAny.below {v : Value} {w w' : World} (_ : isAny v w) (_ : Below w.heap.size w w') : isAny v w' := trivial
def isVar (obj : Obj) (v : Value) (w : World) : Prop := ∃ p, v = .pointer (some ⟨p, 0, none⟩) ∧ w.heap[p]? = some obj
theorem isVar.below {obj : Obj} {v : Value} {w w' : World} (h : isVar obj v w) (hb : Below w.heap.size w w') : isVar obj v w' := by
 obtain ⟨p, rfl, o⟩ := h
 exact ⟨p, rfl, by rw [hb.block p (Array.getElem?_eq_some_iff.1 o).1]; exact o⟩
end Go.Proofs.YtahjijdadifkaaaDoor
