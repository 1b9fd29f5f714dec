/- Merged: Layer 21: a constant, of any expression. Layer 21: the expression of a truth, or of a number that is not negative, with its cells. Layer 21, plain: an expression folded; folded again it is the same. -/
import Derived.Test.YtcamegfnhbbaeaaTreeI
namespace Go.Proofs.Ytcamegfnhbbaeaa
open Go.RowKit
set_option linter.unusedVariables false
set_option linter.unusedSimpArgs false
attribute [local go_sem] ite_max ite_min vite_max vite_min ext_cell ext_frozen

/-- what a constant tells: its value, whether it is a truth, whether it is one -/
def constV (x : Ex) : Int × Bool × Bool :=
  if x.op = 1 then (x.n, false, true) else if x.op = 2 then (x.n, true, true)
  else if x.op = 6 ∧ x.sub.length = 1 ∧ (x.sub[0]?.map Ex.op) = some 1 then (IntKind.i64.wrap (-((x.sub[0]?.map Ex.n).getD 0)), false, true) else (0, false, false)
def constT (x : Ex) : Value := .tuple #[.int .i64 (constV x).1, .bool (constV x).2.1, .bool (constV x).2.2]

set_option maxRecDepth 100000 in
set_option maxHeartbeats 4000000 in
theorem constant_any (x : Ex) (A : Option Addr) (k : Nat) (w : World) (h : ExAt w x (ExC x A k)) : Calls Try.prog 36 #[.agg (ExC x A k).toArray] w fun e w' => e = .returned (constT x) ∧ Below w.heap.size w w' := by
  have hrow : RowE w A x.sub k := by
    obtain ⟨A', k', he, hr, -⟩ := h.form
    simp only [ExC, List.cons.injEq, Value.slice.injEq, and_true, true_and] at he
    obtain ⟨rfl, rfl⟩ := he
    exact hr
  show Calls Try.prog 36 #[.agg #[.int .i64 x.op, .int .i64 x.n, .string x.name, .string x.field, .slice A x.sub.length k, .int .i64 x.line]] w _
  obtain ⟨op, hop⟩ : ∃ op, x.op = op := ⟨_, rfl⟩
  have HR := Lib.hid hrow
  clear h hrow
  by_cases h1 : op = 1
  · have hv : constT x = .tuple #[.int .i64 x.n, .bool false, .bool true] := by
      unfold constT constV
      rw [if_pos (by rw [hop, h1])]
    rw [hv, hop]
    clear hv hop
    subst h1
    go_enter Try.func36, Try.ntmps36
    go_wp2
    refine bodyPost_ret (v := .tuple #[.int .i64 x.n, .bool false, .bool true]) ?_ rfl ⟨rfl, by (repeat' (first | (with_reducible exact Below.refl _ _) | (with_reducible assumption) | (with_reducible refine below_drewN ?_ _) | (with_reducible refine Below.drew ?_) | (with_reducible refine below_new ?_ (Nat.le_refl _) _) | (with_reducible refine Below.setCell ?_ ?_ _) | (with_reducible refine below_go ?_ (by assumption) (Nat.le_refl _)) | (simp; done) | (simp; omega) | omega))⟩
    simp [results, Try.results36, go_sem]
  by_cases h2 : op = 2
  · have hv : constT x = .tuple #[.int .i64 x.n, .bool true, .bool true] := by
      unfold constT constV
      rw [if_neg (by rw [hop]; omega), if_pos (by rw [hop, h2])]
    rw [hv, hop]
    clear hv hop
    subst h2
    go_enter Try.func36, Try.ntmps36
    go_wp2
    refine bodyPost_ret (v := .tuple #[.int .i64 x.n, .bool true, .bool true]) ?_ rfl ⟨rfl, by (repeat' (first | (with_reducible exact Below.refl _ _) | (with_reducible assumption) | (with_reducible refine below_drewN ?_ _) | (with_reducible refine Below.drew ?_) | (with_reducible refine below_new ?_ (Nat.le_refl _) _) | (with_reducible refine Below.setCell ?_ ?_ _) | (with_reducible refine below_go ?_ (by assumption) (Nat.le_refl _)) | (simp; done) | (simp; omega) | omega))⟩
    simp [results, Try.results36, go_sem]
  by_cases h6 : op = 6
  · by_cases hl : x.sub.length = 1
    · obtain ⟨b, off, y, As, ks, hA, hb, hy, hat, hsub, hrng⟩ := RowE.at HR.out (i := 0) (by omega)
      have c0 : w.cell? ⟨b, off, none⟩ = some (.int .i64 y.op) := hrng 0 _ rfl
      have c1 : w.cell? ⟨b, off + 1, none⟩ = some (.int .i64 y.n) := hrng 1 _ rfl
      by_cases hy1 : y.op = 1
      · have hv : constT x = .tuple #[.int .i64 (IntKind.i64.wrap (-y.n)), .bool false, .bool true] := by
          unfold constT constV
          rw [if_neg (by rw [hop]; omega), if_neg (by rw [hop]; omega), if_pos ⟨by rw [hop, h6], hl, by rw [hy]; simp [hy1]⟩, hy]
          rfl
        rw [hv, hop, hl, hA]
        clear hv hop hrng hsub hat hy hl
        subst h6
        subst hA
        go_enter Try.func36, Try.ntmps36
        go_wp2
        refine bodyPost_ret (v := .tuple #[.int .i64 (IntKind.i64.wrap (-y.n)), .bool false, .bool true]) ?_ rfl ⟨rfl, by (repeat' (first | (with_reducible exact Below.refl _ _) | (with_reducible assumption) | (with_reducible refine below_drewN ?_ _) | (with_reducible refine Below.drew ?_) | (with_reducible refine below_new ?_ (Nat.le_refl _) _) | (with_reducible refine Below.setCell ?_ ?_ _) | (with_reducible refine below_go ?_ (by assumption) (Nat.le_refl _)) | (simp; done) | (simp; omega) | omega))⟩
        simp [results, Try.results36, go_sem]
        simp only [RowKit.wrap64, IntKind.wrap_i64]
      · have hv : constT x = .tuple #[.int .i64 0, .bool false, .bool false] := by
          unfold constT constV
          rw [if_neg (by rw [hop]; omega), if_neg (by rw [hop]; omega), if_neg (by rw [hy]; intro h; exact hy1 (by simpa using h.2.2))]
        rw [hv, hop, hl, hA]
        clear hv hop hrng hsub hat hy hl
        subst h6
        subst hA
        go_enter Try.func36, Try.ntmps36
        go_wp2
        refine bodyPost_ret (v := .tuple #[.int .i64 0, .bool false, .bool false]) ?_ rfl ⟨rfl, by (repeat' (first | (with_reducible exact Below.refl _ _) | (with_reducible assumption) | (with_reducible refine below_drewN ?_ _) | (with_reducible refine Below.drew ?_) | (with_reducible refine below_new ?_ (Nat.le_refl _) _) | (with_reducible refine Below.setCell ?_ ?_ _) | (with_reducible refine below_go ?_ (by assumption) (Nat.le_refl _)) | (simp; done) | (simp; omega) | omega))⟩
        simp [results, Try.results36, go_sem]
    · have hv : constT x = .tuple #[.int .i64 0, .bool false, .bool false] := by
        unfold constT constV
        rw [if_neg (by rw [hop]; omega), if_neg (by rw [hop]; omega), if_neg (fun h => hl h.2.1)]
      have hlI : ¬ (x.sub.length : Int) = 1 := by omega
      rw [hv, hop]
      clear hv hop
      subst h6
      go_enter Try.func36, Try.ntmps36
      go_wp2
      refine bodyPost_ret (v := .tuple #[.int .i64 0, .bool false, .bool false]) ?_ rfl ⟨rfl, by (repeat' (first | (with_reducible exact Below.refl _ _) | (with_reducible assumption) | (with_reducible refine below_drewN ?_ _) | (with_reducible refine Below.drew ?_) | (with_reducible refine below_new ?_ (Nat.le_refl _) _) | (with_reducible refine Below.setCell ?_ ?_ _) | (with_reducible refine below_go ?_ (by assumption) (Nat.le_refl _)) | (simp; done) | (simp; omega) | omega))⟩
      simp [results, Try.results36, go_sem]
  have hv : constT x = .tuple #[.int .i64 0, .bool false, .bool false] := by
    unfold constT constV
    rw [if_neg (by rw [hop]; omega), if_neg (by rw [hop]; omega), if_neg (fun h => h6 (by rw [← hop]; exact h.1))]
  rw [hv, hop]
  clear hv hop
  go_enter Try.func36, Try.ntmps36
  go_wp2
  refine bodyPost_ret (v := .tuple #[.int .i64 0, .bool false, .bool false]) ?_ rfl ⟨rfl, by (repeat' (first | (with_reducible exact Below.refl _ _) | (with_reducible assumption) | (with_reducible refine below_drewN ?_ _) | (with_reducible refine Below.drew ?_) | (with_reducible refine below_new ?_ (Nat.le_refl _) _) | (with_reducible refine Below.setCell ?_ ?_ _) | (with_reducible refine below_go ?_ (by assumption) (Nat.le_refl _)) | (simp; done) | (simp; omega) | omega))⟩
  simp [results, Try.results36, go_sem]

end Go.Proofs.Ytcamegfnhbbaeaa

namespace Go.Proofs.Ytcamegfnhbbaeaa
open Go.RowKit
set_option linter.unusedVariables false
set_option linter.unusedSimpArgs false
attribute [local go_sem] ite_max ite_min vite_max vite_min ext_cell ext_frozen

set_option maxRecDepth 100000 in
set_option maxHeartbeats 1000000 in
theorem made_num (n ln : Int) (w : World) (hn : 0 ≤ n) :
    Calls Try.prog 38 #[.int .i64 n, .bool false, .int .i64 ln] w fun e w' => e = .returned (.agg #[.int .i64 1, .int .i64 n, .string ⟨#[]⟩, .string ⟨#[]⟩, .slice none 0 0, .int .i64 ln]) ∧ Below w.heap.size w w' := by
  go_enter Try.func38, Try.ntmps38
  go_wp2
  exact bodyPost_ret (v := .agg #[.int .i64 1, .int .i64 n, .string ⟨#[]⟩, .string ⟨#[]⟩, .slice none 0 0, .int .i64 ln]) (by simp [results, Try.results38, go_sem]) rfl ⟨rfl, by (repeat' (first | (with_reducible exact Below.refl _ _) | (with_reducible assumption) | (with_reducible refine below_drewN ?_ _) | (with_reducible refine Below.drew ?_) | (with_reducible refine below_new ?_ (Nat.le_refl _) _) | (with_reducible refine Below.setCell ?_ ?_ _) | (with_reducible refine below_go ?_ (by assumption) (Nat.le_refl _)) | (simp; done) | (simp; omega) | omega))⟩

set_option maxRecDepth 100000 in
set_option maxHeartbeats 1000000 in
theorem made_truth (n ln : Int) (w : World) :
    Calls Try.prog 38 #[.int .i64 n, .bool true, .int .i64 ln] w fun e w' => e = .returned (.agg #[.int .i64 2, .int .i64 n, .string ⟨#[]⟩, .string ⟨#[]⟩, .slice none 0 0, .int .i64 ln]) ∧ Below w.heap.size w w' := by
  go_enter Try.func38, Try.ntmps38
  go_wp2
  exact bodyPost_ret (v := .agg #[.int .i64 2, .int .i64 n, .string ⟨#[]⟩, .string ⟨#[]⟩, .slice none 0 0, .int .i64 ln]) (by simp [results, Try.results38, go_sem]) rfl ⟨rfl, by (repeat' (first | (with_reducible exact Below.refl _ _) | (with_reducible assumption) | (with_reducible refine below_drewN ?_ _) | (with_reducible refine Below.drew ?_) | (with_reducible refine below_new ?_ (Nat.le_refl _) _) | (with_reducible refine Below.setCell ?_ ?_ _) | (with_reducible refine below_go ?_ (by assumption) (Nat.le_refl _)) | (simp; done) | (simp; omega) | omega))⟩

set_option maxRecDepth 100000 in
set_option maxHeartbeats 2000000 in
theorem made_neg (n ln : Int) (w : World) (hn : n < 0) :
    Calls Try.prog 38 #[.int .i64 n, .bool false, .int .i64 ln] w fun e w' => ∃ q : Nat, e = .returned (.agg #[.int .i64 6, .int .i64 0, .string ⟨#[]⟩, .string ⟨#[]⟩, .slice (some ⟨q, 0, none⟩) 1 1, .int .i64 ln]) ∧ w.heap.size ≤ q ∧ q < w'.heap.size ∧ (∀ j u, (#[Value.int .i64 1, .int .i64 (IntKind.i64.wrap (-n)), .string ⟨#[]⟩, .string ⟨#[]⟩, .slice none 0 0, .int .i64 ln] : Array Value)[j]? = some u → w'.cell? ⟨q, j, none⟩ = some u) ∧ Below w.heap.size w w' := by
  go_enter Try.func38, Try.ntmps38
  go_wp2
  refine bodyPost_ret (v := .agg #[.int .i64 6, .int .i64 0, .string ⟨#[]⟩, .string ⟨#[]⟩, .slice (some ⟨w.heap.size + 1, 0, none⟩) 1 1, .int .i64 ln]) (by simp [results, Try.results38, go_sem]) rfl ⟨w.heap.size + 1, rfl, by omega, by simp, ?_, by (repeat' (first | (with_reducible exact Below.refl _ _) | (with_reducible assumption) | (with_reducible refine below_drewN ?_ _) | (with_reducible refine Below.drew ?_) | (with_reducible refine below_new ?_ (Nat.le_refl _) _) | (with_reducible refine Below.setCell ?_ ?_ _) | (with_reducible refine below_go ?_ (by assumption) (Nat.le_refl _)) | (simp; done) | (simp; omega) | omega))⟩
  intro j u hu
  have h1 := heap_alloc_new (w.alloc (Obj.cells #[Value.int .i64 6, .int .i64 0, .string ⟨#[]⟩, .string ⟨#[]⟩, .slice (some ⟨w.heap.size + 1, 0, none⟩) 1 1, .int .i64 ln] 39)) (Obj.cells #[Value.int .i64 1, .int .i64 (IntKind.i64.wrap (-n)), .string ⟨#[]⟩, .string ⟨#[]⟩, .slice none 0 0, .int .i64 ln] 39)
  rw [World.size_alloc] at h1
  have h2 := heap_cell j u h1 hu
  simpa only [RowKit.wrap64, IntKind.wrap_i64] using h2

end Go.Proofs.Ytcamegfnhbbaeaa

namespace Go.Proofs.Ytcamegfnhbbaeaa
set_option linter.unusedVariables false
set_option linter.unusedSimpArgs false

/-- a value's expression -/
def madeX (n : Int) (is : Bool) (ln : Int) : Ex :=
  if is = true then .mk 2 n ⟨#[]⟩ ⟨#[]⟩ [] ln else if 0 ≤ n then .mk 1 n ⟨#[]⟩ ⟨#[]⟩ [] ln
  else .mk 6 0 ⟨#[]⟩ ⟨#[]⟩ [.mk 1 (IntKind.i64.wrap (-n)) ⟨#[]⟩ ⟨#[]⟩ [] ln] ln
/-- a node whose parts are folded -/
def topX (F : Int → List Int → Bool → Int × Bool × Int) (op n : Int) (nm fd : ByteArray) (subs : List Ex) (ln : Int) : Ex :=
  let x := Ex.mk op n nm fd subs ln
  if op < 6 then x else if (constV x).2.2 = true then x
  else if subs.any (fun s => !(constV s).2.2) = true then x
  else
    let tr := subs.any (fun s => (constV s).2.1)
    if tr = true ∧ subs.any (fun s => !(constV s).2.1) = true then x
    else
      let r := F op (subs.map fun s => (constV s).1) tr
      if r.2.2 ≠ 0 ∨ (r.2.1 = false ∧ r.1 = -9223372036854775808) then x else madeX r.1 r.2.1 ln
theorem topX_or (F : Int → List Int → Bool → Int × Bool × Int) (op n : Int) (nm fd : ByteArray) (subs : List Ex) (ln : Int) : topX F op n nm fd subs ln = .mk op n nm fd subs ln ∨ ∃ k is, topX F op n nm fd subs ln = madeX k is ln := by
  unfold topX
  simp only
  split
  · exact .inl rfl
  split
  · exact .inl rfl
  split
  · exact .inl rfl
  split
  · exact .inl rfl
  split
  · exact .inl rfl
  · exact .inr ⟨_, _, rfl⟩

mutual
def foldE (F : Int → List Int → Bool → Int × Bool × Int) : Ex → Ex
  | .mk op n nm fd sub ln => topX F op n nm fd (foldEs F sub) ln
def foldEs (F : Int → List Int → Bool → Int × Bool × Int) : List Ex → List Ex
  | [] => []
  | x :: l => foldE F x :: foldEs F l
end
theorem foldE_low {F : Int → List Int → Bool → Int × Bool × Int} {op n ln : Int} {nm fd : ByteArray} (h : op < 6) : foldE F (.mk op n nm fd [] ln) = .mk op n nm fd [] ln := by
  simp only [foldE, foldEs, topX]
  rw [if_pos h]
theorem foldE_made {F : Int → List Int → Bool → Int × Bool × Int} (n ln : Int) (is : Bool) : foldE F (madeX n is ln) = madeX n is ln := by
  unfold madeX
  split
  · exact foldE_low (by decide)
  split
  · exact foldE_low (by decide)
  · rw [foldE, foldEs, foldEs, foldE_low (by decide), topX]
    simp only
    rw [if_neg (by decide), if_pos]
    unfold constV
    rw [if_neg (by simp [Ex.op]), if_neg (by simp [Ex.op]), if_pos (by simp [Ex.op, Ex.sub])]
mutual
theorem foldE_again (F : Int → List Int → Bool → Int × Bool × Int) : ∀ x : Ex, foldE F (foldE F x) = foldE F x
  | .mk op n nm fd sub ln => by
    have ih := foldEs_again F sub
    rw [foldE]
    rcases topX_or F op n nm fd (foldEs F sub) ln with h | ⟨k, is, h⟩
    · rw [h, foldE, ih, h]
    · rw [h, foldE_made]
theorem foldEs_again (F : Int → List Int → Bool → Int × Bool × Int) : ∀ l : List Ex, foldEs F (foldEs F l) = foldEs F l
  | [] => by rw [foldEs, foldEs]
  | x :: l => by rw [foldEs, foldEs, foldE_again F x, foldEs_again F l]
end

end Go.Proofs.Ytcamegfnhbbaeaa
