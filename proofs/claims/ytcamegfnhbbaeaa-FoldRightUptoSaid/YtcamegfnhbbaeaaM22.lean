/- Merged: Layer 21, the reference: a constant's value. Two operations that may come up in either order; what a call owns, stored beside. Layer 21, the reference: kinds counted, in plain Lean; results. -/
import Derived.Test.YtcamegfnhbbaeaaTreeX
import Derived.Test.YtcamegfnhbbaeaaHeld
import Derived.Test.YtcamegfnhbbaeaaTreeX1
import Derived.Deep.AppendLies
namespace Go.Proofs.Ytcamegfnhbbaeaa
open Go.RowKit
set_option linter.unusedVariables false
set_option linter.unusedSimpArgs false
attribute [local go_sem] ite_max ite_min vite_max vite_min ext_cell ext_frozen

/-- 0: no constant, 1: a number, 2: a truth -/
def kindX (x : Ex) : Nat := if (constV x).2.2 = true then (if (constV x).2.1 = true then 2 else 1) else 0
def valV (x : Ex) : Value := .tuple #[.int .i64 (constV x).1, .int .i64 (kindX x)]

set_option maxRecDepth 100000 in
set_option maxHeartbeats 4000000 in
theorem rvalue_any (x : Ex) (A : Option Addr) (k : Nat) (w : World) (h : ExAt w x (ExC x A k)) (h1s : x.op = 6 → x.sub.length = 1) : Calls Try.prog 58 #[.agg (ExC x A k).toArray] w fun e w' => e = .returned (valV x) ∧ Below w.heap.size w w' := by
  have hrow : RowE w A x.sub k := by
    obtain ⟨A', k', he, hr, -⟩ := h.form
    simp only [ExC, List.cons.injEq, Value.slice.injEq, and_true, true_and] at he
    obtain ⟨rfl, rfl⟩ := he
    exact hr
  show Calls Try.prog 58 #[.agg #[.int .i64 x.op, .int .i64 x.n, .string x.name, .string x.field, .slice A x.sub.length k, .int .i64 x.line]] w _
  obtain ⟨op, hop⟩ : ∃ op, x.op = op := ⟨_, rfl⟩
  rw [hop] at h1s
  have HR := Lib.hid hrow
  clear h hrow
  by_cases h1 : op = 1
  · have hv : valV x = .tuple #[.int .i64 x.n, .int .i64 1] := by
      unfold valV kindX constV
      rw [if_pos (by rw [hop, h1])]
      rfl
    rw [hv, hop]
    clear hv hop h1s
    subst h1
    go_enter Try.func58, Try.ntmps58
    go_wp2_with fail
    refine wp_region_ext (by kernel_rfl) (by kernel_rfl) ?_
    repeat (go_big_quiet_step (fail))
    refine wpQuiet_nil ?_
    intro w2 hb2
    replace hb2 := ext_below hb2
    go_wp2
    refine bodyPost_ret (v := .tuple #[.int .i64 x.n, .int .i64 1]) ?_ rfl ⟨rfl, by (repeat' (first | (with_reducible exact Below.refl _ _) | (with_reducible assumption) | (with_reducible refine below_drewN ?_ _) | (with_reducible refine Below.drew ?_) | (with_reducible refine below_new ?_ (Nat.le_refl _) _) | (with_reducible refine Below.setCell ?_ ?_ _) | (with_reducible refine below_go ?_ (by assumption) (Nat.le_refl _)) | (simp; done) | (simp; omega) | omega))⟩
    simp [results, Try.results58, go_sem]
  by_cases h2 : op = 2
  · have hv : valV x = .tuple #[.int .i64 x.n, .int .i64 2] := by
      unfold valV kindX constV
      rw [if_neg (by rw [hop]; omega), if_pos (by rw [hop, h2])]
      rfl
    rw [hv, hop]
    clear hv hop h1s
    subst h2
    go_enter Try.func58, Try.ntmps58
    go_wp2_with fail
    refine wp_region_ext (by kernel_rfl) (by kernel_rfl) ?_
    repeat (go_big_quiet_step (fail))
    refine wpQuiet_nil ?_
    intro w2 hb2
    replace hb2 := ext_below hb2
    go_wp2
    refine bodyPost_ret (v := .tuple #[.int .i64 x.n, .int .i64 2]) ?_ rfl ⟨rfl, by (repeat' (first | (with_reducible exact Below.refl _ _) | (with_reducible assumption) | (with_reducible refine below_drewN ?_ _) | (with_reducible refine Below.drew ?_) | (with_reducible refine below_new ?_ (Nat.le_refl _) _) | (with_reducible refine Below.setCell ?_ ?_ _) | (with_reducible refine below_go ?_ (by assumption) (Nat.le_refl _)) | (simp; done) | (simp; omega) | omega))⟩
    simp [results, Try.results58, go_sem]
  by_cases h6 : op = 6
  · have hl := h1s h6
    obtain ⟨b, off, y, As, ks, hA, hb, hy, hat, hsub, hrng⟩ := RowE.at HR.out (i := 0) (by omega)
    have c0 : w.cell? ⟨b, off, none⟩ = some (.int .i64 y.op) := hrng 0 _ rfl
    have c1 : w.cell? ⟨b, off + 1, none⟩ = some (.int .i64 y.n) := hrng 1 _ rfl
    by_cases hy1 : y.op = 1
    · have hv : valV x = .tuple #[.int .i64 (IntKind.i64.wrap (-y.n)), .int .i64 1] := by
        unfold valV kindX constV
        rw [if_neg (by rw [hop]; omega), if_neg (by rw [hop]; omega), if_pos ⟨by rw [hop, h6], hl, by rw [hy]; simp [hy1]⟩, hy]
        rfl
      rw [hv, hop, hl, hA]
      clear hv hop hrng hsub hat hy hl h1s
      subst h6
      subst hA
      go_enter Try.func58, Try.ntmps58
      go_wp2
      refine bodyPost_ret (v := .tuple #[.int .i64 (IntKind.i64.wrap (-y.n)), .int .i64 1]) ?_ rfl ⟨rfl, by (repeat' (first | (with_reducible exact Below.refl _ _) | (with_reducible assumption) | (with_reducible refine below_drewN ?_ _) | (with_reducible refine Below.drew ?_) | (with_reducible refine below_new ?_ (Nat.le_refl _) _) | (with_reducible refine Below.setCell ?_ ?_ _) | (with_reducible refine below_go ?_ (by assumption) (Nat.le_refl _)) | (simp; done) | (simp; omega) | omega))⟩
      simp [results, Try.results58, go_sem]
      try simp only [RowKit.wrap64, IntKind.wrap_i64]
    · have hv : valV x = .tuple #[.int .i64 0, .int .i64 0] := by
        unfold valV kindX constV
        rw [if_neg (by rw [hop]; omega), if_neg (by rw [hop]; omega), if_neg (by rw [hy]; intro h; exact hy1 (by simpa using h.2.2))]
        rfl
      rw [hv, hop, hl, hA]
      clear hv hop hrng hsub hat hy hl h1s
      subst h6
      subst hA
      go_enter Try.func58, Try.ntmps58
      go_wp2
      refine bodyPost_ret (v := .tuple #[.int .i64 0, .int .i64 0]) ?_ rfl ⟨rfl, by (repeat' (first | (with_reducible exact Below.refl _ _) | (with_reducible assumption) | (with_reducible refine below_drewN ?_ _) | (with_reducible refine Below.drew ?_) | (with_reducible refine below_new ?_ (Nat.le_refl _) _) | (with_reducible refine Below.setCell ?_ ?_ _) | (with_reducible refine below_go ?_ (by assumption) (Nat.le_refl _)) | (simp; done) | (simp; omega) | omega))⟩
      simp [results, Try.results58, go_sem]
  have hv : valV x = .tuple #[.int .i64 0, .int .i64 0] := by
    unfold valV kindX constV
    rw [if_neg (by rw [hop]; omega), if_neg (by rw [hop]; omega), if_neg (fun h => h6 (by rw [← hop]; exact h.1))]
    rfl
  rw [hv, hop]
  clear hv hop h1s
  have u1 : (op == 1) = false := by simp [h1]
  have u2 : (op == 2) = false := by simp [h2]
  have u6 : (op == 6) = false := by simp [h6]
  go_enter Try.func58, Try.ntmps58
  go_wp2
  refine bodyPost_ret (v := .tuple #[.int .i64 0, .int .i64 0]) ?_ rfl ⟨rfl, by (repeat' (first | (with_reducible exact Below.refl _ _) | (with_reducible assumption) | (with_reducible refine below_drewN ?_ _) | (with_reducible refine Below.drew ?_) | (with_reducible refine below_new ?_ (Nat.le_refl _) _) | (with_reducible refine Below.setCell ?_ ?_ _) | (with_reducible refine below_go ?_ (by assumption) (Nat.le_refl _)) | (simp; done) | (simp; omega) | omega))⟩
  simp [results, Try.results58, go_sem]

end Go.Proofs.Ytcamegfnhbbaeaa

namespace Go.Proofs.Ytcamegfnhbbaeaa
open Go.RowKit
set_option linter.unusedVariables false
set_option linter.unusedSimpArgs false

section
variable {P : Program} {md : Region.Mode} {l : List Oper} {Q : Exit → Act → World → Prop} {S : World → Prop} {fuel : Nat} {listed : Array Bool} {a : Act} {w : World} {i j : Nat} {o p : Oper}
theorem twoH (hr : Region.ready md l.toArray listed = [i, j]) (ho : l[i]? = some o) (hp : l[j]? = some p)
    (h1 : ∀ K' : Act → World → Prop, Shut (∀ a w, S w → (S w → wpAnyH P md l.toArray Q S fuel (listed.setIfInBounds i true) a w) → K' a w) → if Region.wanted o (yielded l.toArray a.tmps) = true then Oper.wp P o a w K' Q else K' (a.put o.dst undef) w)
    (h2 : ∀ K' : Act → World → Prop, Shut (∀ a w, S w → (S w → wpAnyH P md l.toArray Q S fuel (listed.setIfInBounds j true) a w) → K' a w) → if Region.wanted p (yielded l.toArray a.tmps) = true then Oper.wp P p a w K' Q else K' (a.put p.dst undef) w) :
    wpAnyH P md l.toArray Q S (fuel + 1) listed a w :=
  wpAnyH_ready hr (by simp) (AllReadyH.cons (by simpa using ho) h1 (AllReadyH.cons (by simpa using hp) h2 AllReadyH.nil))
end
theorem owns_setCell {w : World} {base : Nat} {e : TypeId} {size : Nat} {v : Value} {n : Nat} {xs : List Value} (h : w.ownsRow base e size v n xs) {p : Addr} (hp : p.block < base) (u : Value) : (w.setCell p u).ownsRow base e size v n xs := by
  obtain ⟨h1, h2⟩ := h
  refine ⟨h1, ?_⟩
  rcases h2 with h2 | ⟨g, cap, cur, hv, hg, hh, r⟩
  · exact Or.inl h2
  · exact Or.inr ⟨g, cap, cur, hv, hg, by rw [heap_setCell_other _ _ _ _ (by omega)]; exact hh, r⟩
theorem BuiltE.setCell {w : World} {base : Nat} {ys : List Ex} {v : Value} (h : BuiltE w base ys v) {p : Addr} (hp : p.block < base) (u : Value) : BuiltE (w.setCell p u) base ys v := by
  obtain ⟨cs, h1, h2⟩ := h
  refine ⟨cs, owns_setCell h1 hp u, h2.mono fun y c hy => hy.move (.onlyW (by simp) fun b _ h => ⟨h, ?_⟩)⟩
  have hb : base ≤ b := by
    simp only [frees, Bool.and_eq_true, decide_eq_true_eq] at h
    exact h.1
  exact heap_setCell_other _ _ _ _ (by omega)
theorem cells_set {w : World} {H k : Nat} {cs : Array Value} {T : TypeId} {fr : Nat × Nat} {v : Value} (h : w.heap[H]? = some (.cells cs T fr)) : (w.setCell ⟨H, k, none⟩ v).heap[H]? = some (.cells (cs.setIfInBounds k v) T fr) := by
  rw [setCell_eq_setRow _ _ _ _ _ _ _ h]
  exact setRow_heap _ _ _ _ _ _ h

end Go.Proofs.Ytcamegfnhbbaeaa

namespace Go.Proofs.Ytcamegfnhbbaeaa
open Go.RowKit
set_option linter.unusedVariables false
set_option linter.unusedSimpArgs false

def kcnt (q : Nat) (l : List Ex) : Nat := (l.filter fun s => kindX s == q).length
theorem kcnt_snoc (q : Nat) {l : List Ex} {i : Nat} {y : Ex} (h : l[i]? = some y) : kcnt q (l.take (i + 1)) = kcnt q (l.take i) + (if kindX y = q then 1 else 0) := by
  unfold kcnt
  rw [List.take_add_one, h]
  simp only [Option.toList_some, List.filter_append, List.length_append]
  by_cases hc : kindX y = q <;> simp [hc]
theorem kindX_lt (y : Ex) : kindX y = 0 ∨ kindX y = 1 ∨ kindX y = 2 := by
  unfold kindX
  split
  · split
    · exact .inr (.inr rfl)
    · exact .inr (.inl rfl)
  · exact .inl rfl
theorem constV_truth (y : Ex) (h : (constV y).2.1 = true) : (constV y).2.2 = true := by
  unfold constV at h ⊢
  split
  · rfl
  · split
    · rfl
    · rename_i h1 h2
      rw [if_neg h1, if_neg h2] at h
      split at h <;> cases h
theorem kindX_0 {y : Ex} (h : kindX y = 0) : (constV y).2.2 = false := by
  unfold kindX at h
  cases hc : (constV y).2.2
  · rfl
  · rw [hc] at h
    rw [if_pos rfl] at h
    split at h <;> cases h
theorem kindX_ok {y : Ex} (h : kindX y ≠ 0) : (constV y).2.2 = true := by
  unfold kindX at h
  cases hc : (constV y).2.2
  · rw [hc] at h
    exact absurd rfl h
  · rfl
theorem kindX_1 {y : Ex} (h : kindX y = 1) : (constV y).2.1 = false := by
  cases hc : (constV y).2.1
  · rfl
  · unfold kindX at h
    rw [hc, constV_truth y hc] at h
    cases h
theorem kindX_2 {y : Ex} : kindX y = 2 ↔ (constV y).2.1 = true := by
  constructor
  · intro h
    cases hc : (constV y).2.1
    · unfold kindX at h
      rw [hc] at h
      split at h <;> cases h
    · rfl
  · intro h
    unfold kindX
    rw [h, constV_truth y h]
    rfl
theorem kcnt_pos {q : Nat} {l : List Ex} (h : 0 < kcnt q l) : ∃ y ∈ l, kindX y = q := by
  unfold kcnt at h
  obtain ⟨a, ha⟩ := List.exists_mem_of_length_pos h
  rw [List.mem_filter] at ha
  exact ⟨a, ha.1, by simpa using ha.2⟩
theorem kcnt_zero {q : Nat} {l : List Ex} (h : kcnt q l = 0) : ∀ y ∈ l, kindX y ≠ q := by
  unfold kcnt at h
  have h1 := List.eq_nil_of_length_eq_zero h
  rw [List.filter_eq_nil_iff] at h1
  intro y hy he
  exact h1 y hy (by simp [he])
theorem trN_kcnt (l : List Ex) : trN l = kcnt 2 l := by
  unfold trN kcnt
  congr 1
  apply List.filter_congr
  intro y _
  cases hc : (constV y).2.1
  · have : kindX y ≠ 2 := fun h => by rw [kindX_2.1 h] at hc; cases hc
    simp [this]
  · simp [kindX_2.2 hc]
section
variable {F : Int → List Int → Bool → Int × Bool × Int} {op n ln : Int} {nm fd : ByteArray} {ys : List Ex}
theorem rtop_not (h : 0 < kcnt 0 ys) : topX F op n nm fd ys ln = .mk op n nm fd ys ln := by
  obtain ⟨y, hy, hk⟩ := kcnt_pos h
  obtain ⟨j, hj⟩ := List.getElem?_of_mem hy
  exact topX_not hj (kindX_0 hk)
theorem rtop_mixed (h1 : 0 < kcnt 1 ys) (h2 : 0 < kcnt 2 ys) : topX F op n nm fd ys ln = .mk op n nm fd ys ln := by
  refine topX_mixed (by rw [trN_kcnt]; omega) ?_
  obtain ⟨y, hy, hk⟩ := kcnt_pos h1
  intro he
  unfold trN at he
  have := List.length_filter_eq_length_iff.1 he y hy
  rw [kindX_1 hk] at this
  cases this
theorem rtop_all (h6 : ¬ op < 6) (hc : ¬ (constV (.mk op n nm fd ys ln)).2.2 = true) (h0 : kcnt 0 ys = 0) (tr : Bool) (ht : tr = true ∧ 0 < kcnt 2 ys ∧ kcnt 1 ys = 0 ∨ tr = false ∧ kcnt 2 ys = 0) :
    topX F op n nm fd ys ln = if (F op (valsX ys) tr).2.2 ≠ 0 ∨ ((F op (valsX ys) tr).2.1 = false ∧ (F op (valsX ys) tr).1 = -9223372036854775808) then .mk op n nm fd ys ln else madeX (F op (valsX ys) tr).1 (F op (valsX ys) tr).2.1 ln := by
  refine topX_all h6 hc (fun y hy => kindX_ok (kcnt_zero h0 y hy)) tr ?_
  rcases ht with ⟨rfl, h1, h2⟩ | ⟨rfl, h1⟩
  · refine .inl ⟨rfl, by rw [trN_kcnt]; omega, ?_⟩
    unfold trN
    rw [List.length_filter_eq_length_iff]
    intro y hy
    have a0 := kcnt_zero h0 y hy
    have a1 := kcnt_zero h2 y hy
    rcases kindX_lt y with h | h | h
    · exact absurd h a0
    · exact absurd h a1
    · exact kindX_2.1 h
  · exact .inr ⟨rfl, by rw [trN_kcnt]; exact h1⟩
end
theorem tvI_min (b : Bool) : tvI b ≠ -9223372036854775808 := by cases b <;> decide
theorem opF_is {op : Int} {zs : List Int} {tr : Bool} (h : (opF op zs tr).2.1 = true) : (opF op zs tr).1 ≠ -9223372036854775808 := by
  revert h
  unfold opF
  split
  · intro h; cases h
  · rename_i hb
    split
    · rename_i a
      have hb2 : tr = true → a = 0 ∨ a = 1 := fun ht => by
        rw [ht] at hb
        exact badT_no (by simpa using hb)
      unfold op1
      (repeat' split) <;> first | (intro h; cases h; done) | (intro _; exact tvI_min _) | (intro _; rename_i hx; have := hb2 (by simp_all); show 1 - a ≠ _; omega) | (intro _; have := hb2 (by assumption); show 1 - a ≠ _; omega)
    · split
      · unfold opT
        (repeat' split) <;> first | (intro h; cases h; done) | (intro _; exact tvI_min _)
      · split
        · unfold opK
          (repeat' split) <;> first | (intro h; cases h; done) | (intro _; exact tvI_min _)
        · split
          · unfold opC
            (repeat' split) <;> first | (intro h; cases h; done) | (intro _; exact tvI_min _)
          · intro h; cases h
    · intro h; cases h

/-- a sign stands ahead of one part -/
inductive Neg1 : Ex → Prop where
  | mk (x : Ex) (h : x.op = 6 → x.sub.length = 1) (hs : ∀ y ∈ x.sub, Neg1 y) : Neg1 x
theorem Neg1.top {x : Ex} (h : Neg1 x) : x.op = 6 → x.sub.length = 1 := by cases h with | mk _ h _ => exact h
theorem Neg1.subs {x : Ex} (h : Neg1 x) : ∀ y ∈ x.sub, Neg1 y := by cases h with | mk _ _ h => exact h
theorem neg1_fold {x : Ex} (h : Neg1 x) : (foldE opF x).op = 6 → (foldE opF x).sub.length = 1 := by
  obtain ⟨op, n, nm, fd, sub, ln⟩ := x
  rw [foldE]
  rcases topX_or opF op n nm fd (foldEs opF sub) ln with he | ⟨k, is, he⟩
  · rw [he]
    intro h6
    show (foldEs opF sub).length = 1
    rw [foldEs_len]
    exact h.top h6
  · rw [he]
    unfold madeX
    split
    · intro h6; cases h6
    split
    · intro h6; cases h6
    · intro _; rfl

/-- the result under way, in its variable -/
structure YV (w V : World) (H : Nat) (op n : Int) (nm fd : ByteArray) (A0 : Option Addr) (m cap : Nat) (A : Option Addr) (i c : Nat) (ln : Int) (ys : List Ex) : Prop where
  x : V.heap[H]? = some (.cells (exA op n nm fd A0 m cap ln) 39)
  z : V.heap[H + 1]? = some (.cells (exA 0 0 ⟨#[]⟩ ⟨#[]⟩ none 0 0 0) 39)
  y : V.heap[H + 2]? = some (.cells (exA op n nm fd A i c ln) 39)
  b : Below H w V
  r : RowE (only V (news (H + 3))) A ys c
  lt : H + 3 ≤ V.heap.size
section
variable {w V V' : World} {H : Nat} {op n : Int} {nm fd : ByteArray} {A0 A : Option Addr} {m cap i c : Nat} {ln : Int} {ys : List Ex}
theorem YV.below (h : YV w V H op n nm fd A0 m cap A i c ln ys) (hb : Below V.heap.size V V') : YV w V' H op n nm fd A0 m cap A i c ln ys :=
  ⟨(hb.block H (by have := h.lt; omega)).trans h.x, (hb.block (H + 1) (by have := h.lt; omega)).trans h.z, (hb.block (H + 2) (by have := h.lt; omega)).trans h.y, h.b.trans (hb.mono (by have := h.lt; omega)), h.r.move (.onlyB hb fun b _ h => h), Nat.le_trans h.lt hb.size⟩
theorem YV.row (h : YV w V H op n nm fd A0 m cap A i c ln ys) : RowE V A ys c := h.r.move (Moves.only _ _)
theorem rres_set {y : Ex} {k : Nat} {cs : Array Value} (hat : ExAt (only V (news (H + 3))) y (ExC y A k)) (hb : Below H w V) : ExRes H y (.returned (.agg (ExC y A k).toArray)) (V.setRow (H + 1) cs) ∧ Below H w (V.setRow (H + 1) cs) := by
  refine ⟨⟨A, k, rfl, hat.move (.onlyW (by simp [World.setRow]) fun b _ hp => ?_)⟩, below_setRow hb (by omega) _⟩
  simp only [news, decide_eq_true_eq] at hp ⊢
  exact ⟨by omega, setRow_other _ _ _ _ (by omega)⟩
theorem YV.done (h : YV w V H op n nm fd A0 m cap A i c ln ys) {x : Ex} (he : foldE opF x = .mk op n nm fd ys ln) (ho : I64 op) (hn : I64 n) (hl : I64 ln) (hm : ys.length = i) (cs : Array Value) :
    ExRes H (foldE opF x) (.returned (.agg (exA op n nm fd A i c ln))) (V.setRow (H + 1) cs) ∧ Below H w (V.setRow (H + 1) cs) := by
  rw [he]
  subst hm
  exact rres_set (y := .mk op n nm fd ys ln) (ExAt.of ho hn hl h.r) h.b
theorem rmade_res1 {r ln : Int} {cs : Array Value} (h : 0 ≤ r) (hr : I64 r) (hl : I64 ln) (hb : Below H w V) : ExRes H (madeX r false ln) (.returned (.agg (exA 1 r ⟨#[]⟩ ⟨#[]⟩ none 0 0 ln))) (V.setRow (H + 1) cs) ∧ Below H w (V.setRow (H + 1) cs) := by
  unfold madeX
  rw [if_neg (by decide), if_pos h]
  exact rres_set (y := .mk 1 r ⟨#[]⟩ ⟨#[]⟩ [] ln) (A := none) (k := 0) (ExAt.of ⟨by decide, by decide⟩ hr hl (RowOf.nil _ _ _ _ _ _ (by decide))) hb
theorem rmade_res2 {r ln : Int} {cs : Array Value} (hr : I64 r) (hl : I64 ln) (hb : Below H w V) : ExRes H (madeX r true ln) (.returned (.agg (exA 2 r ⟨#[]⟩ ⟨#[]⟩ none 0 0 ln))) (V.setRow (H + 1) cs) ∧ Below H w (V.setRow (H + 1) cs) := by
  unfold madeX
  rw [if_pos rfl]
  exact rres_set (y := .mk 2 r ⟨#[]⟩ ⟨#[]⟩ [] ln) (A := none) (k := 0) (ExAt.of ⟨by decide, by decide⟩ hr hl (RowOf.nil _ _ _ _ _ _ (by decide))) hb
theorem rmade_res6 {r ln : Int} {cs : Array Value} {q : Nat} (h : r < 0) (hl : I64 ln) (hb : Below H w V) (hq1 : H + 3 ≤ q) (hq2 : q < V.heap.size)
    (hc : V.heap[q]? = some (.cells #[Value.int .i64 1, .int .i64 (IntKind.i64.wrap (-r)), .string ⟨#[]⟩, .string ⟨#[]⟩, .slice none 0 0, .int .i64 ln] 39)) :
    ExRes H (madeX r false ln) (.returned (.agg (exA 6 0 ⟨#[]⟩ ⟨#[]⟩ (some ⟨q, 0, none⟩) 1 1 ln))) (V.setRow (H + 1) cs) ∧ Below H w (V.setRow (H + 1) cs) :=
  made_res6 h hl hb (by omega) hq2 fun j u hu => heap_cell j u hc hu
end

end Go.Proofs.Ytcamegfnhbbaeaa
