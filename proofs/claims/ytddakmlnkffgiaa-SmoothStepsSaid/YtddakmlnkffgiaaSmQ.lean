/- Contracts of layer 10: a window, shifted. -/
import Derived.Test.YtddakmlnkffgiaaSmN
namespace Go.Proofs.Ytddakmlnkffgiaa
open Go.RowKit
set_option linter.unusedVariables false
set_option linter.unusedSimpArgs false
attribute [local go_sem] ite_max ite_min vite_max vite_min ext_cell ext_frozen

/-- n numbers lie in a block from a place on -/
structure AtW (w : World) (zs : List Int) (n b off k : Nat) : Prop where
  nk : n ≤ k
  km : k ≤ 9223372036854775807
  gl : b < w.heap.size
  cs : ∀ i, i < n → w.cell? ⟨b, off + i, none⟩ = some (.int .i64 (zs[i]?.getD 0))
theorem AtW.below {w w' : World} {zs : List Int} {n b off k : Nat} (h : AtW w zs n b off k) (hb : Below w.heap.size w w') : AtW w' zs n b off k :=
  ⟨h.nk, h.km, Nat.lt_of_lt_of_le h.gl hb.size, fun i hi => by rw [hb.cell (p := ⟨b, off + i, none⟩) h.gl]; exact h.cs i hi⟩
theorem AtW.store {w : World} {zs : List Int} {n b off k : Nat} (h : AtW w zs n b off k) {a : Addr} (hne : b ≠ a.block) (u : Value) : AtW (w.setCell a u) zs n b off k :=
  ⟨h.nk, h.km, Nat.lt_of_lt_of_le h.gl ((Below.refl 0 w).setCell (p := a) (Nat.zero_le _) u).size, fun i hi => by rw [World.cell?_of_block (w := w) (Below.heap_setCell w a u b hne)]; exact h.cs i hi⟩
theorem OnW.toAt {w : World} {zs : List Int} {n g k : Nat} (h : OnW w zs n g k) : AtW w zs n g 0 k := ⟨h.nk, h.km, h.gl, h.at0⟩
theorem sm_right_a (zs : List Int) (b off n k : Nat) (r : Bool) (w : World) (h : AtW w zs n b off k) (hr : rightW zs n = r) :
    Calls Try.prog 50 #[.agg #[.slice (some ⟨b, off, none⟩) n k]] w fun e w' => e = .returned (.bool r) ∧ Below w.heap.size w w' :=
  sm_right_at zs b off n k r w h.nk h.km h.gl h.cs hr
theorem sm_out_a (zs : List Int) (b off n k : Nat) (x : Int) (w : World) (h : AtW w zs n b off k) (hr : rightW zs n = true) (hx : sumK zs n = x) :
    Calls Try.prog 44 #[.agg #[.slice (some ⟨b, off, none⟩) n k]] w fun e w' => e = .returned (.int .i64 x) ∧ Below w.heap.size w w' :=
  sm_out_at zs b off n k x w h.nk h.km h.gl h.cs hr hx
theorem sm_push_a (zs : List Int) (b off n k : Nat) (pos : Int) (w : World) (h : AtW w zs n b off k) (hr : rightW zs n = true) (hp : plB pos = true) :
    Calls Try.prog 45 #[.agg #[.slice (some ⟨b, off, none⟩) n k], .int .i64 pos] w fun e w' => ∃ g' k', e = .returned (.agg #[.slice (some ⟨g', 0, none⟩) n k']) ∧ w.heap.size ≤ g' ∧ Below w.heap.size w w' ∧ OnW w' (pos :: zs) n g' k' := by
  refine (sm_push_at zs b off n k pos w h.nk h.km h.gl h.cs hr hp).mono ?_
  rintro e w' ⟨v, rfl, hw, hb⟩
  obtain ⟨g', k', rfl, hB, ho⟩ := OnW.of_win hw
  exact ⟨g', k', rfl, hB, hb, ho⟩
theorem sm_push_no_a (zs : List Int) (b off n k : Nat) (pos : Int) (w : World) (h : AtW w zs n b off k) (hn : n ≤ 1000) (hr : (rightW zs n && plB pos) = false) :
    Calls Try.prog 45 #[.agg #[.slice (some ⟨b, off, none⟩) n k], .int .i64 pos] w fun e w' => ∃ g' k', e = .returned (.agg #[.slice (some ⟨g', 0, none⟩) n k']) ∧ w.heap.size ≤ g' ∧ Below w.heap.size w w' ∧ OnW w' zs n g' k' := by
  refine (sm_push_no zs b off n k pos w ⟨h.nk, hn⟩ h.km h.gl h.cs hr).mono ?_
  rintro e w' ⟨v, rfl, hw, hb⟩
  obtain ⟨g', k', rfl, hB, ho⟩ := OnW.of_win hw
  exact ⟨g', k', rfl, hB, hb, ho⟩

/-- the first n numbers, all moved -/
def shW (zs : List Int) (n : Nat) (d : Int) : List Int := (List.range n).map fun i => zs[i]?.getD 0 + d
theorem shW_len (zs : List Int) (n : Nat) (d : Int) : (shW zs n d).length = n := by simp [shW]
theorem shW_get (zs : List Int) (n : Nat) (d : Int) (i : Nat) (h : i < n) : (shW zs n d)[i]?.getD 0 = zs[i]?.getD 0 + d := by
  simp [shW, h]
theorem shW_snoc (zs : List Int) (i : Nat) (d : Int) : shW zs i d ++ [zs[i]?.getD 0 + d] = shW zs (i + 1) d := by
  simp [shW, List.range_succ]
/-- may it be moved so far? -/
def farB (d : Int) : Bool := decide (-4398046511104 ≤ d ∧ d ≤ 4398046511104)
def shB (zs : List Int) (n : Nat) (d : Int) : Bool := rightW zs n && farB d && rightW (shW zs n d) n

set_option maxRecDepth 100000 in
set_option maxHeartbeats 2000000 in
theorem sm_shift_far (zs : List Int) (g off n k : Nat) (d : Int) (w : World) (h : AtW w zs n g off k) (hn : n ≤ 1000) (hr : (rightW zs n && farB d) = false) :
    Calls Try.prog 51 #[.agg #[.slice (some ⟨g, off, none⟩) n k], .int .i64 d] w fun e w' => ∃ g' k', e = .returned (.agg #[.slice (some ⟨g', 0, none⟩) n k']) ∧ w.heap.size ≤ g' ∧ Below w.heap.size w w' ∧ OnW w' zs n g' k' := by
  have H := Lib.hid h
  have hgl := h.gl
  have HR := Lib.hid hr
  clear h hr
  go_enter Try.func51, Try.ntmps51
  go_wp2_with fail
  refine (sm_clone_at zs g off n k _ hn (fun i hi => ?_)).mono ?_
  · have := H.out.cs i hi
    go_simp
  rintro e w1 ⟨g1, k1, cur, rfl, hg, hgc, hnk, hkm, hck, hct, hb1⟩
  have hg2 : w.heap.size + 1 + 1 ≤ g1 := by simpa using hg
  have hgl1 : g1 < w1.heap.size := (Array.getElem?_eq_some_iff.1 hgc.out).1
  have o1 : OnW w1 zs n g1 k1 := by
    obtain ⟨g', k', he, _, o⟩ := OnW.of_win (B := 0) (zs := zs) (n := n) (w := w1) (v := .agg #[.slice (some ⟨g1, 0, none⟩) n k1]) ⟨g1, k1, cur, rfl, Nat.zero_le _, hgc, hnk, hkm, hck, hct⟩
    simp at he
    obtain ⟨rfl, rfl⟩ := he
    exact o
  obtain ⟨hb1c, hb1f⟩ := bcell hb1
  have hb1z := hb1.size
  have hb1c0 := fun o => hb1c (w.heap.size) o (by first | (simp; done) | (simp; omega) | (simp at *; omega) | omega)
  have hb1f0 := fun o => hb1f (w.heap.size) o (by first | (simp; done) | (simp; omega) | (simp at *; omega) | omega)
  have hb1l0 := below_lt (b := w.heap.size) hb1 (by first | (simp; done) | (simp; omega) | (simp at *; omega) | omega)
  have hb1c1 := fun o => hb1c (w.heap.size + 1) o (by first | (simp; done) | (simp; omega) | (simp at *; omega) | omega)
  have hb1f1 := fun o => hb1f (w.heap.size + 1) o (by first | (simp; done) | (simp; omega) | (simp at *; omega) | omega)
  have hb1l1 := below_lt (b := w.heap.size + 1) hb1 (by first | (simp; done) | (simp; omega) | (simp at *; omega) | omega)
  have hb1c2 := fun o => hb1c (g) o (by first | (simp; done) | (simp; omega) | (simp at *; omega) | omega)
  have hb1f2 := fun o => hb1f (g) o (by first | (simp; done) | (simp; omega) | (simp at *; omega) | omega)
  have hb1l2 := below_lt (b := g) hb1 (by first | (simp; done) | (simp; omega) | (simp at *; omega) | omega)
  have hB1 : Below w.heap.size w w1 := by (repeat' (first | (with_reducible exact Below.refl _ _) | (with_reducible assumption) | (with_reducible refine below_drewN ?_ _) | (with_reducible refine Below.drew ?_) | (with_reducible refine below_new ?_ (Nat.le_refl _) _) | (with_reducible refine Below.setCell ?_ ?_ _) | (with_reducible refine below_go ?_ (by assumption) (Nat.le_refl _)) | (simp; done) | (simp; omega) | omega))
  have hw1l : w.heap.size + 1 < w1.heap.size := by omega
  cases hR : rightW zs n
  · have HRR := Lib.hid hR
    clear hR
    go_wp2_with fail
    refine (sm_right_a zs g off n k false _ (H.out.below ?bb) HRR.out).mono ?_
    case bb => (repeat' (first | (with_reducible exact Below.refl _ _) | (with_reducible assumption) | (with_reducible refine below_drewN ?_ _) | (with_reducible refine Below.drew ?_) | (with_reducible refine below_new ?_ (Nat.le_refl _) _) | (with_reducible refine Below.setCell ?_ ?_ _) | (with_reducible refine below_go ?_ (by assumption) (Nat.le_refl _)) | (simp; done) | (simp; omega) | omega))
    rintro e w2 ⟨rfl, hb2⟩
    obtain ⟨hb2c, hb2f⟩ := bcell hb2
    have hb2z := hb2.size
    have hb2c0 := fun o => hb2c (w.heap.size) o (by first | (simp; done) | (simp; omega) | (simp at *; omega) | omega)
    have hb2f0 := fun o => hb2f (w.heap.size) o (by first | (simp; done) | (simp; omega) | (simp at *; omega) | omega)
    have hb2l0 := below_lt (b := w.heap.size) hb2 (by first | (simp; done) | (simp; omega) | (simp at *; omega) | omega)
    have hb2c1 := fun o => hb2c (w.heap.size + 1) o (by first | (simp; done) | (simp; omega) | (simp at *; omega) | omega)
    have hb2f1 := fun o => hb2f (w.heap.size + 1) o (by first | (simp; done) | (simp; omega) | (simp at *; omega) | omega)
    have hb2l1 := below_lt (b := w.heap.size + 1) hb2 (by first | (simp; done) | (simp; omega) | (simp at *; omega) | omega)
    have hb2c2 := fun o => hb2c (w1.heap.size) o (by first | (simp; done) | (simp; omega) | (simp at *; omega) | omega)
    have hb2f2 := fun o => hb2f (w1.heap.size) o (by first | (simp; done) | (simp; omega) | (simp at *; omega) | omega)
    have hb2l2 := below_lt (b := w1.heap.size) hb2 (by first | (simp; done) | (simp; omega) | (simp at *; omega) | omega)
    have hrc : w2.cell? ⟨w.heap.size + 1, 0, none⟩ = some (.slice none 0 0) := by
      rw [hb2c1]
      go_simp
    go_wp2
    refine bodyPost_ret (v := .agg #[.slice (some ⟨g1, 0, none⟩) n k1]) (by simp [results, Try.results51, go_sem, hrc]) rfl ⟨_, _, rfl, by omega, by (repeat' (first | (with_reducible exact Below.refl _ _) | (with_reducible assumption) | (with_reducible refine below_drewN ?_ _) | (with_reducible refine Below.drew ?_) | (with_reducible refine below_new ?_ (Nat.le_refl _) _) | (with_reducible refine Below.setCell ?_ ?_ _) | (with_reducible refine below_go ?_ (by assumption) (Nat.le_refl _)) | (simp; done) | (simp; omega) | omega)), ?_⟩
    exact (o1.below (by (repeat' (first | (with_reducible exact Below.refl _ _) | (with_reducible assumption) | (with_reducible refine below_drewN ?_ _) | (with_reducible refine Below.drew ?_) | (with_reducible refine below_new ?_ (Nat.le_refl _) _) | (with_reducible refine Below.setCell ?_ ?_ _) | (with_reducible refine below_go ?_ (by assumption) (Nat.le_refl _)) | (simp; done) | (simp; omega) | omega)))).store (by show g1 ≠ w.heap.size + 1; omega) _
  · have hfd : farB d = false := by simpa [hR] using HR.out
    have hfd2 : ¬ (-4398046511104 ≤ d ∧ d ≤ 4398046511104) := of_decide_eq_false hfd
    have HRR := Lib.hid hR
    clear hR hfd
    by_cases hlo : d < -4398046511104
    · clear hfd2
      go_wp2_with fail
      refine (sm_right_a zs g off n k true _ (H.out.below ?bb) HRR.out).mono ?_
      case bb => (repeat' (first | (with_reducible exact Below.refl _ _) | (with_reducible assumption) | (with_reducible refine below_drewN ?_ _) | (with_reducible refine Below.drew ?_) | (with_reducible refine below_new ?_ (Nat.le_refl _) _) | (with_reducible refine Below.setCell ?_ ?_ _) | (with_reducible refine below_go ?_ (by assumption) (Nat.le_refl _)) | (simp; done) | (simp; omega) | omega))
      rintro e w2 ⟨rfl, hb2⟩
      obtain ⟨hb2c, hb2f⟩ := bcell hb2
      have hb2z := hb2.size
      have hb2c0 := fun o => hb2c (w.heap.size) o (by first | (simp; done) | (simp; omega) | (simp at *; omega) | omega)
      have hb2f0 := fun o => hb2f (w.heap.size) o (by first | (simp; done) | (simp; omega) | (simp at *; omega) | omega)
      have hb2l0 := below_lt (b := w.heap.size) hb2 (by first | (simp; done) | (simp; omega) | (simp at *; omega) | omega)
      have hb2c1 := fun o => hb2c (w.heap.size + 1) o (by first | (simp; done) | (simp; omega) | (simp at *; omega) | omega)
      have hb2f1 := fun o => hb2f (w.heap.size + 1) o (by first | (simp; done) | (simp; omega) | (simp at *; omega) | omega)
      have hb2l1 := below_lt (b := w.heap.size + 1) hb2 (by first | (simp; done) | (simp; omega) | (simp at *; omega) | omega)
      have hb2c2 := fun o => hb2c (w1.heap.size) o (by first | (simp; done) | (simp; omega) | (simp at *; omega) | omega)
      have hb2f2 := fun o => hb2f (w1.heap.size) o (by first | (simp; done) | (simp; omega) | (simp at *; omega) | omega)
      have hb2l2 := below_lt (b := w1.heap.size) hb2 (by first | (simp; done) | (simp; omega) | (simp at *; omega) | omega)
      have hrc : w2.cell? ⟨w.heap.size + 1, 0, none⟩ = some (.slice none 0 0) := by
        rw [hb2c1]
        go_simp
      go_wp2
      refine bodyPost_ret (v := .agg #[.slice (some ⟨g1, 0, none⟩) n k1]) (by simp [results, Try.results51, go_sem, hrc]) rfl ⟨_, _, rfl, by omega, by (repeat' (first | (with_reducible exact Below.refl _ _) | (with_reducible assumption) | (with_reducible refine below_drewN ?_ _) | (with_reducible refine Below.drew ?_) | (with_reducible refine below_new ?_ (Nat.le_refl _) _) | (with_reducible refine Below.setCell ?_ ?_ _) | (with_reducible refine below_go ?_ (by assumption) (Nat.le_refl _)) | (simp; done) | (simp; omega) | omega)), ?_⟩
      exact (o1.below (by (repeat' (first | (with_reducible exact Below.refl _ _) | (with_reducible assumption) | (with_reducible refine below_drewN ?_ _) | (with_reducible refine Below.drew ?_) | (with_reducible refine below_new ?_ (Nat.le_refl _) _) | (with_reducible refine Below.setCell ?_ ?_ _) | (with_reducible refine below_go ?_ (by assumption) (Nat.le_refl _)) | (simp; done) | (simp; omega) | omega)))).store (by show g1 ≠ w.heap.size + 1; omega) _
    · have hhi : 4398046511104 < d := by omega
      clear hfd2
      go_wp2_with fail
      refine (sm_right_a zs g off n k true _ (H.out.below ?bb) HRR.out).mono ?_
      case bb => (repeat' (first | (with_reducible exact Below.refl _ _) | (with_reducible assumption) | (with_reducible refine below_drewN ?_ _) | (with_reducible refine Below.drew ?_) | (with_reducible refine below_new ?_ (Nat.le_refl _) _) | (with_reducible refine Below.setCell ?_ ?_ _) | (with_reducible refine below_go ?_ (by assumption) (Nat.le_refl _)) | (simp; done) | (simp; omega) | omega))
      rintro e w2 ⟨rfl, hb2⟩
      obtain ⟨hb2c, hb2f⟩ := bcell hb2
      have hb2z := hb2.size
      have hb2c0 := fun o => hb2c (w.heap.size) o (by first | (simp; done) | (simp; omega) | (simp at *; omega) | omega)
      have hb2f0 := fun o => hb2f (w.heap.size) o (by first | (simp; done) | (simp; omega) | (simp at *; omega) | omega)
      have hb2l0 := below_lt (b := w.heap.size) hb2 (by first | (simp; done) | (simp; omega) | (simp at *; omega) | omega)
      have hb2c1 := fun o => hb2c (w.heap.size + 1) o (by first | (simp; done) | (simp; omega) | (simp at *; omega) | omega)
      have hb2f1 := fun o => hb2f (w.heap.size + 1) o (by first | (simp; done) | (simp; omega) | (simp at *; omega) | omega)
      have hb2l1 := below_lt (b := w.heap.size + 1) hb2 (by first | (simp; done) | (simp; omega) | (simp at *; omega) | omega)
      have hb2c2 := fun o => hb2c (w1.heap.size) o (by first | (simp; done) | (simp; omega) | (simp at *; omega) | omega)
      have hb2f2 := fun o => hb2f (w1.heap.size) o (by first | (simp; done) | (simp; omega) | (simp at *; omega) | omega)
      have hb2l2 := below_lt (b := w1.heap.size) hb2 (by first | (simp; done) | (simp; omega) | (simp at *; omega) | omega)
      have hrc : w2.cell? ⟨w.heap.size + 1, 0, none⟩ = some (.slice none 0 0) := by
        rw [hb2c1]
        go_simp
      go_wp2
      refine bodyPost_ret (v := .agg #[.slice (some ⟨g1, 0, none⟩) n k1]) (by simp [results, Try.results51, go_sem, hrc]) rfl ⟨_, _, rfl, by omega, by (repeat' (first | (with_reducible exact Below.refl _ _) | (with_reducible assumption) | (with_reducible refine below_drewN ?_ _) | (with_reducible refine Below.drew ?_) | (with_reducible refine below_new ?_ (Nat.le_refl _) _) | (with_reducible refine Below.setCell ?_ ?_ _) | (with_reducible refine below_go ?_ (by assumption) (Nat.le_refl _)) | (simp; done) | (simp; omega) | omega)), ?_⟩
      exact (o1.below (by (repeat' (first | (with_reducible exact Below.refl _ _) | (with_reducible assumption) | (with_reducible refine below_drewN ?_ _) | (with_reducible refine Below.drew ?_) | (with_reducible refine below_new ?_ (Nat.le_refl _) _) | (with_reducible refine Below.setCell ?_ ?_ _) | (with_reducible refine below_go ?_ (by assumption) (Nat.le_refl _)) | (simp; done) | (simp; omega) | omega)))).store (by show g1 ≠ w.heap.size + 1; omega) _

end Go.Proofs.Ytddakmlnkffgiaa
