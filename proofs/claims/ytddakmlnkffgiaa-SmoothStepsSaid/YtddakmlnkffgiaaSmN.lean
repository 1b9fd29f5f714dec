/- Layer 10: SmoothOne, the walk through the loops. -/
import Derived.Test.YtddakmlnkffgiaaPSmB
import Derived.Test.YtddakmlnkffgiaaApp
namespace Go.Proofs.Ytddakmlnkffgiaa
open Go.RowKit
set_option linter.unusedVariables false
set_option linter.unusedSimpArgs false
attribute [local go_sem] ite_max ite_min vite_max vite_min ext_cell ext_frozen

theorem OnW.grown {w w' : World} {zs : List Int} {n g k : Nat} {row : Option Nat} (h : OnW w zs n g k) (hg : w.grownBy w' row) (hne : some g ≠ row) : OnW w' zs n g k :=
  ⟨h.nk, h.km, Nat.lt_of_lt_of_le h.gl hg.size, fun i hi => by rw [hg.cell_far ⟨g, i, none⟩ h.gl hne]; exact h.cs i hi⟩
theorem below_keep {B : Nat} {w w' : World} (h : Below B w w') (hB : w.heap.size ≤ B) : Below w.heap.size w w' := h.mono hB

set_option maxRecDepth 100000 in
set_option maxHeartbeats 2000000 in
theorem one_skip (m f : Int) (s : Value) (w : World) (h : ¬ (-1099511627776 ≤ f ∧ f ≤ 1099511627776)) :
    Calls Try.prog 12 #[.int .i64 m, .int .i64 f, s] w fun e w' => e = .returned (.bool true) ∧ Below w.heap.size w w' := by
  by_cases h1 : -1099511627776 ≤ f
  · have h2 : 1099511627776 < f := by omega
    clear h
    go_enter Try.func12, Try.ntmps12
    go_wp2_with fail
    refine (awake10_at _).mono ?_
    rintro e w1 ⟨rfl, hb1⟩
    go_wp2
    go_ret
    exact ⟨rfl, by (repeat' (first | (with_reducible exact Below.refl _ _) | (with_reducible assumption) | (with_reducible refine below_drewN ?_ _) | (with_reducible refine Below.drew ?_) | (with_reducible refine below_new ?_ (Nat.le_refl _) _) | (with_reducible refine Below.setCell ?_ ?_ _) | (with_reducible refine below_go ?_ (by assumption) (Nat.le_refl _)) | (simp; done) | (simp; omega) | omega))⟩
  · clear h
    have h2 : f < -1099511627776 := by omega
    go_enter Try.func12, Try.ntmps12
    go_wp2_with fail
    refine (awake10_at _).mono ?_
    rintro e w1 ⟨rfl, hb1⟩
    go_wp2
    go_ret
    exact ⟨rfl, by (repeat' (first | (with_reducible exact Below.refl _ _) | (with_reducible assumption) | (with_reducible refine below_drewN ?_ _) | (with_reducible refine Below.drew ?_) | (with_reducible refine below_new ?_ (Nat.le_refl _) _) | (with_reducible refine Below.setCell ?_ ?_ _) | (with_reducible refine below_go ?_ (by assumption) (Nat.le_refl _)) | (simp; done) | (simp; omega) | omega))⟩

set_option maxRecDepth 100000 in
set_option maxHeartbeats 2000000 in
theorem one_no (m f : Int) (s : Value) (w : World) (hf : -1099511627776 ≤ f ∧ f ≤ 1099511627776) (hm : ¬ (1 ≤ m ∧ m ≤ 16)) :
    Calls Try.prog 12 #[.int .i64 m, .int .i64 f, s] w fun e w' => e = .returned (.bool true) ∧ Below w.heap.size w w' := by
  have HM : Hid ((decide (1 ≤ m ∧ m ≤ 16) && plB f) = false) := Lib.hid (by rw [decide_eq_false hm]; rfl)
  have HF : Hid (plB f = true) := Lib.hid (decide_eq_true (by omega))
  clear hm
  go_enter Try.func12, Try.ntmps12
  go_wp2_with fail
  refine (awake10_at _).mono ?_
  rintro e w1 ⟨rfl, hb1⟩
  go_wp2_with fail
  refine (sm_new_no f m _ HM.out).mono ?_
  rintro e w3 ⟨rfl, hb3⟩
  go_wp2_with fail
  refine (sm_new_w f 1 _ (by omega) HF.out).mono ?_
  rintro e w4 ⟨g1, rfl, hg1, hb4, o4⟩
  obtain ⟨hb4c, hb4f⟩ := bcell hb4
  have hb4z := hb4.size
  have hb4c0 := fun o => hb4c (w3.heap.size) o (by first | (simp; done) | (simp; omega) | (simp at *; omega) | omega)
  have hb4f0 := fun o => hb4f (w3.heap.size) o (by first | (simp; done) | (simp; omega) | (simp at *; omega) | omega)
  have hb4l0 := below_lt (b := w3.heap.size) hb4 (by first | (simp; done) | (simp; omega) | (simp at *; omega) | omega)
  go_wp2
  go_ret
  exact ⟨rfl, by (repeat' (first | (with_reducible exact Below.refl _ _) | (with_reducible assumption) | (with_reducible refine below_drewN ?_ _) | (with_reducible refine Below.drew ?_) | (with_reducible refine below_new ?_ (Nat.le_refl _) _) | (with_reducible refine Below.setCell ?_ ?_ _) | (with_reducible refine below_go ?_ (by assumption) (Nat.le_refl _)) | (simp; done) | (simp; omega) | omega))⟩

/-- where the walk of SmoothOne stands: two windows over one row of places, held by the variables A and B, and a row of numbers of its own -/
structure OneS (w w' : World) (A B : Nat) (zs : List Int) (m ga ka gb kb : Nat) (v : Value) (ts : List Int) : Prop where
  be : Below w.heap.size w w'
  wA : w.heap.size ≤ A
  wB : w.heap.size ≤ B
  ab : A ≠ B
  al : A < w'.heap.size
  bl : B < w'.heap.size
  ca : w'.cell? ⟨A, 0, none⟩ = some (.slice (some ⟨ga, 0, none⟩) m ka)
  fa : w'.frozen? ⟨A, 0, none⟩ = false
  cb : w'.cell? ⟨B, 0, none⟩ = some (.slice (some ⟨gb, 0, none⟩) 1 kb)
  fb : w'.frozen? ⟨B, 0, none⟩ = false
  oa : OnW w' zs m ga ka
  ob : OnW w' zs 1 gb kb
  own : w'.ownsRow w.heap.size 2 1 v ts.length (intsV .i64 ts)
  ap : Apart v [A, B, ga, gb]

theorem OneS.below {w wr w' : World} {A B : Nat} {zs : List Int} {m ga ka gb kb : Nat} {v : Value} {ts : List Int} (s : OneS w wr A B zs m ga ka gb kb v ts) (h : Below wr.heap.size wr w') : OneS w w' A B zs m ga ka gb kb v ts :=
  ⟨s.be.trans (h.mono s.be.size), s.wA, s.wB, s.ab, Nat.lt_of_lt_of_le s.al h.size, Nat.lt_of_lt_of_le s.bl h.size, (h.cell (p := ⟨A, 0, none⟩) s.al).trans s.ca, (h.frozen (p := ⟨A, 0, none⟩) s.al).trans s.fa, (h.cell (p := ⟨B, 0, none⟩) s.bl).trans s.cb, (h.frozen (p := ⟨B, 0, none⟩) s.bl).trans s.fb,
    s.oa.below h, s.ob.below h, owns_below s.own h, s.ap⟩

theorem OneS.append {w wr w5 : World} {A B : Nat} {zs : List Int} {m ga ka gb kb : Nat} {v : Value} {ts : List Int} {o : Obj} {g c : Nat} {x : Int} (s : OneS w wr A B zs m ga ka gb kb v ts) (hgrow : (wr.alloc o).grownBy w5 v.ownBlock)
    (hown : w5.ownsRow w.heap.size 2 1 (.slice (some ⟨g, 0, none⟩) (ts.length + 1) c) (ts.length + 1) (intsV .i64 ts ++ [.int .i64 x])) (hat : v.ownBlock = some g ∨ g = wr.heap.size + 1) :
    OneS w w5 A B zs m ga ka gb kb (.slice (some ⟨g, 0, none⟩) (ts.length + 1) c) (ts ++ [x]) := by
  have hsz : (wr.alloc o).heap.size = wr.heap.size + 1 := by simp
  rw [← hsz] at hat
  have s' := s.below ((Below.refl _ _).alloc (Nat.le_refl _) o)
  have hA : some A ≠ v.ownBlock := s.ap.at (by simp)
  have hB : some B ≠ v.ownBlock := s.ap.at (by simp)
  have hga : some ga ≠ v.ownBlock := s.ap.at (by simp)
  have hgb : some gb ≠ v.ownBlock := s.ap.at (by simp)
  refine ⟨below_grown s'.be hgrow s'.own (Nat.le_refl _) s'.be.size, s.wA, s.wB, s.ab, Nat.lt_of_lt_of_le s'.al hgrow.size, Nat.lt_of_lt_of_le s'.bl hgrow.size, (hgrow.cell_far ⟨A, 0, none⟩ s'.al hA).trans s'.ca, (hgrow.frozen_far ⟨A, 0, none⟩ s'.al hA).trans s'.fa, (hgrow.cell_far ⟨B, 0, none⟩ s'.bl hB).trans s'.cb, (hgrow.frozen_far ⟨B, 0, none⟩ s'.bl hB).trans s'.fb,
    s'.oa.grown hgrow hga, s'.ob.grown hgrow hgb, ?_, s.ap.next hat ?_⟩
  · rw [intsV_snoc] at hown
    rw [List.length_append, List.length_singleton]
    exact hown
  · intro b hb
    simp only [List.mem_cons, List.not_mem_nil, or_false] at hb
    rcases hb with rfl | rfl | rfl | rfl
    · exact s'.al
    · exact s'.bl
    · exact s'.oa.gl
    · exact s'.ob.gl

theorem OneS.push {w wr wl : World} {A B : Nat} {zs zs' : List Int} {m ga ka gb kb ga' ka' gb' kb' : Nat} {v : Value} {ts : List Int} (s : OneS w wr A B zs m ga ka gb kb v ts) (h : Below wr.heap.size wr wl) (oa : OnW wl zs' m ga' ka') (ob : OnW wl zs' 1 gb' kb') (hga : wr.heap.size ≤ ga') (hgb : wr.heap.size ≤ gb') :
    OneS w ((wl.setCell ⟨A, 0, none⟩ (.slice (some ⟨ga', 0, none⟩) m ka')).setCell ⟨B, 0, none⟩ (.slice (some ⟨gb', 0, none⟩) 1 kb')) A B zs' m ga' ka' gb' kb' v ts := by
  have s' := s.below h
  have hA := s.al
  have hB := s.bl
  have hAb : A ≠ B := s.ab
  have hbe := s'.be
  have hwA := s.wA
  have hwB := s.wB
  have e1 : (wl.setCell ⟨A, 0, none⟩ (.slice (some ⟨ga', 0, none⟩) m ka')).heap.size = wl.heap.size := by simp [World.setCell]
  have e2 : ((wl.setCell ⟨A, 0, none⟩ (.slice (some ⟨ga', 0, none⟩) m ka')).setCell ⟨B, 0, none⟩ (.slice (some ⟨gb', 0, none⟩) 1 kb')).heap.size = wl.heap.size := by simp [World.setCell]
  have ca := s'.ca
  have cb := s'.cb
  have fa := s'.fa
  have fb := s'.fb
  have hBA : B ≠ A := fun e => hAb e.symm
  have hoa : v.ownBlock ≠ some A := fun e => s.ap.at (b := A) (by simp) e.symm
  have hob : v.ownBlock ≠ some B := fun e => s.ap.at (b := B) (by simp) e.symm
  refine ⟨(hbe.setCell (by show w.heap.size ≤ A; omega) _).setCell (by show w.heap.size ≤ B; omega) _, hwA, hwB, hAb, by rw [e2]; exact s'.al, by rw [e2]; exact s'.bl, by go_simp, by go_simp, by go_simp, by go_simp,
    (oa.store (by show ga' ≠ A; omega) _).store (by show ga' ≠ B; omega) _, (ob.store (by show gb' ≠ A; omega) _).store (by show gb' ≠ B; omega) _, ownsRow_setCell_other (ownsRow_setCell_other s'.own hoa _) hob _, ?_⟩
  have h1 := s.ap.sub (m := [A, B]) (by simp)
  have h2 : Apart v [ga', gb'] := Apart.of_lt s.own (by simp; omega)
  intro b hb
  simp only [List.mem_cons, List.not_mem_nil, or_false] at hb
  rcases hb with rfl | rfl | rfl | rfl
  · exact h1 _ (by simp)
  · exact h1 _ (by simp)
  · exact h2 _ (by simp)
  · exact h2 _ (by simp)

end Go.Proofs.Ytddakmlnkffgiaa
