/- Layer 16: the block of a kind, the kind of a name. -/
import Derived.Test.YtedmhafpaielmaaDoorStdA
namespace Go.Proofs.YtedmhafpaielmaaDoor
open Go.RowKit
set_option linter.unusedVariables false
set_option linter.unusedSimpArgs false
attribute [local go_sem] ite_max ite_min vite_max vite_min ext_cell ext_frozen

theorem cf_of1 (args : Array Value) (w : World) : Sem.run Tryd.prog (callFunc 26 args) w = .ok (.enter 26 args) w := by
  go_simp

theorem cf_kind1 (args : Array Value) (w : World) : Sem.run Tryd.prog (callFunc 24 args) w = .ok (.enter 24 args) w := by
  go_simp

set_option maxHeartbeats 1000000 in
theorem of1_any (s : Sh) (c : Nat) (kind : Int) (w : World) (hc : w.cell? ⟨c, 0, none⟩ = some (.int .i64 kind)) (hl : c < w.heap.size) :
    Calls Tryd.prog 26 #[.agg #[.int .i64 s.kind, .string s.name, .string s.inp, .string s.out, .int .i64 s.inner], .pointer (some ⟨c, 0, none⟩)] w fun e w' => e = .returned (.bool (decide (s.kind = kind))) ∧ Below w.heap.size w w' := by
  go_enter Tryd.func26, Tryd.ntmps26
  go_wp2
  go_ret
  exact ⟨rfl, by (repeat' (first | (with_reducible exact Below.refl _ _) | (with_reducible assumption) | (with_reducible refine below_drewN ?_ _) | (with_reducible refine Below.drew ?_) | (with_reducible refine below_new ?_ (Nat.le_refl _) _) | (with_reducible refine Below.setCell ?_ ?_ _) | (with_reducible refine below_go ?_ (by assumption) (Nat.le_refl _)) | (simp; done) | (simp; omega) | omega))⟩

set_option maxHeartbeats 1000000 in
theorem kind1_any (s : Sh) (c : Nat) (nm : ByteArray) (w : World) (hc : w.cell? ⟨c, 0, none⟩ = some (.string nm)) (hl : c < w.heap.size) :
    Calls Tryd.prog 24 #[.agg #[.int .i64 s.kind, .string s.name, .string s.inp, .string s.out, .int .i64 s.inner], .pointer (some ⟨c, 0, none⟩)] w fun e w' => e = .returned (.bool (s.name.toList == nm.toList)) ∧ Below w.heap.size w w' := by
  go_enter Tryd.func24, Tryd.ntmps24
  go_wp2
  go_ret
  exact ⟨rfl, by (repeat' (first | (with_reducible exact Below.refl _ _) | (with_reducible assumption) | (with_reducible refine below_drewN ?_ _) | (with_reducible refine Below.drew ?_) | (with_reducible refine below_new ?_ (Nat.le_refl _) _) | (with_reducible refine Below.setCell ?_ ?_ _) | (with_reducible refine below_go ?_ (by assumption) (Nat.le_refl _)) | (simp; done) | (simp; omega) | omega))⟩

/-- the sheet of a kind -/
def ofV (kind : Int) : Value := match shL.find? (fun s => decide (s.kind = kind)) with
  | some s => .tuple #[.agg s.cells.toArray, .bool true]
  | none => .tuple #[.agg #[.int .i64 0, .string ⟨#[]⟩, .string ⟨#[]⟩, .string ⟨#[]⟩, .int .i64 0], .bool false]
theorem ofV_some {kind : Int} {s : Sh} (h : shL.find? (fun s => decide (s.kind = kind)) = some s) : ofV kind = .tuple #[.agg #[.int .i64 s.kind, .string s.name, .string s.inp, .string s.out, .int .i64 s.inner], .bool true] := by
  unfold ofV
  rw [h]
  rfl
theorem ofV_none {kind : Int} (h : shL.find? (fun s => decide (s.kind = kind)) = none) : ofV kind = .tuple #[.agg #[.int .i64 0, .string ⟨#[]⟩, .string ⟨#[]⟩, .string ⟨#[]⟩, .int .i64 0], .bool false] := by
  unfold ofV
  rw [h]
theorem findI_cases (p : Sh → Bool) : (∃ (i : Nat) (s : Sh), findI p = (i : Int) ∧ i < 21 ∧ shL[i]? = some s ∧ shL.find? p = some s) ∨ (findI p = -1 ∧ shL.find? p = none) := by
  unfold findI
  cases h : shL.findIdx? p with
  | none =>
    refine Or.inr ⟨rfl, ?_⟩
    rw [List.findIdx?_eq_none_iff] at h
    rw [List.find?_eq_none]
    intro x hx
    simp [h x hx]
  | some i =>
    have h' := h
    rw [List.findIdx?_eq_some_iff_getElem] at h
    obtain ⟨hi, hp, hn⟩ := h
    refine Or.inl ⟨i, shL[i], rfl, by rw [shL_len] at hi; exact hi, List.getElem?_eq_getElem hi, ?_⟩
    rw [List.find?_eq_some_iff_getElem]
    refine ⟨hp, i, hi, rfl, fun j hj => ?_⟩
    have := hn j hj
    simp only [Bool.not_eq_true] at this
    simp [this]

set_option maxRecDepth 100000 in
set_option maxHeartbeats 2000000 in
theorem of_any (kind : Int) (w : World) : Calls Tryd.prog 19 #[.int .i64 kind] w fun e w' => e = .returned (ofV kind) ∧ Below w.heap.size w w' := by
  have HFI := Lib.hid (findI_cases fun s => decide (s.kind = kind))
  have hP : ∃ p : Sh → Bool, p = fun s => decide (s.kind = kind) := ⟨_, rfl⟩
  obtain ⟨p, hp⟩ := hP
  rw [← hp] at HFI
  have HP := Lib.hid hp
  clear hp
  go_enter Tryd.func19, Tryd.ntmps19
  go_wp2_with fail
  refine (sheets_any _).mono ?_
  rintro e w1 ⟨rfl, hb1, hs1, hl1⟩
  have hz : w.heap.size + 2 < w1.heap.size := by simpa using hl1
  obtain ⟨b, hb⟩ : ∃ b, b = w.heap.size + 2 := ⟨_, rfl⟩
  have hs1' : ShAt b w1 := by
    rw [hb]
    simpa using hs1
  obtain ⟨hb1c, hb1f⟩ := bcell hb1
  have hb1z := hb1.size
  have hb1c0 := fun o => hb1c (w.heap.size) o (by first | (simp; done) | (simp; omega) | (simp at *; omega) | omega)
  have hb1f0 := fun o => hb1f (w.heap.size) o (by first | (simp; done) | (simp; omega) | (simp at *; omega) | omega)
  have hb1l0 := below_lt (b := w.heap.size) hb1 (by first | (simp; done) | (simp; omega) | (simp at *; omega) | omega)
  have hb1c1 := fun o => hb1c (w.heap.size + 1) o (by first | (simp; done) | (simp; omega) | (simp at *; omega) | omega)
  have hb1f1 := fun o => hb1f (w.heap.size + 1) o (by first | (simp; done) | (simp; omega) | (simp at *; omega) | omega)
  have hb1l1 := below_lt (b := w.heap.size + 1) hb1 (by first | (simp; done) | (simp; omega) | (simp at *; omega) | omega)
  have HS1 := Lib.hid hs1'
  clear hs1 hs1'
  go_wp2_with fail
  subst hb
  rw [show w.heap.size + 1 + 1 = w.heap.size + 2 from rfl]
  refine (ix_sheet 26 _ p (w.heap.size + 2) w1 (by omega) HS1.out cf_of1 (fun s w' hb' => ?_)).mono ?_
  · rw [HP.out]
    refine of1_any s w.heap.size kind w' ?_ ?_
    · rw [hb'.cell (p := ⟨w.heap.size, 0, none⟩) (by show w.heap.size < w1.heap.size; omega), hb1c0]
      go_simp
    · have := hb'.size
      omega
  rintro e w2 ⟨rfl, hb2⟩
  rcases HFI.out with ⟨i, s, hi, hi21, hs, hf⟩ | ⟨hi, hf⟩
  · rw [hi]
    have hcells := HS1.out.below (by omega) hb2 i s hs
    have c0 : w2.cell? ⟨w.heap.size + 2, i * 5, none⟩ = some (.int .i64 s.kind) := hcells 0 (by omega)
    have c1 : w2.cell? ⟨w.heap.size + 2, i * 5 + 1, none⟩ = some (.string s.name) := hcells 1 (by omega)
    have c2 : w2.cell? ⟨w.heap.size + 2, i * 5 + 2, none⟩ = some (.string s.inp) := hcells 2 (by omega)
    have c3 : w2.cell? ⟨w.heap.size + 2, i * 5 + 3, none⟩ = some (.string s.out) := hcells 3 (by omega)
    have c4 : w2.cell? ⟨w.heap.size + 2, i * 5 + 4, none⟩ = some (.int .i64 s.inner) := hcells 4 (by omega)
    have hk0 : (0 : Int) ≤ (i : Int) := by omega
    have hkn : (i : Int) < 21 := by omega
    have hno : ¬ ((i : Int) < 0) := by omega
    have hV := ofV_some (kind := kind) (s := s) (by rw [← HP.out]; exact hf)
    have HV := Lib.hid hV
    obtain ⟨hb2c, hb2f⟩ := bcell hb2
    have hb2z := hb2.size
    have hb2c0 := fun o => hb2c (w.heap.size + 1) o (by first | (simp; done) | (simp; omega) | (simp at *; omega) | omega)
    have hb2f0 := fun o => hb2f (w.heap.size + 1) o (by first | (simp; done) | (simp; omega) | (simp at *; omega) | omega)
    have hb2l0 := below_lt (b := w.heap.size + 1) hb2 (by first | (simp; done) | (simp; omega) | (simp at *; omega) | omega)
    clear hcells hs hi hf HFI hV
    go_wp2
    refine bodyPost_ret (v := .tuple #[.agg #[.int .i64 s.kind, .string s.name, .string s.inp, .string s.out, .int .i64 s.inner], .bool true]) ?_ rfl ⟨?_, ?_⟩
    · simp [results, Tryd.results19, go_sem, hb2c0, hb1c1, hb2f0, hb1f1]
    · rw [HV.out]
    · (repeat' (first | (with_reducible exact Below.refl _ _) | (with_reducible assumption) | (with_reducible refine below_drewN ?_ _) | (with_reducible refine Below.drew ?_) | (with_reducible refine below_new ?_ (Nat.le_refl _) _) | (with_reducible refine Below.setCell ?_ ?_ _) | (with_reducible refine below_go ?_ (by assumption) (Nat.le_refl _)) | (simp; done) | (simp; omega) | omega))
  · rw [hi]
    have hV := ofV_none (kind := kind) (by rw [← HP.out]; exact hf)
    have HV := Lib.hid hV
    obtain ⟨hb2c, hb2f⟩ := bcell hb2
    have hb2z := hb2.size
    have hb2c0 := fun o => hb2c (w.heap.size + 1) o (by first | (simp; done) | (simp; omega) | (simp at *; omega) | omega)
    have hb2f0 := fun o => hb2f (w.heap.size + 1) o (by first | (simp; done) | (simp; omega) | (simp at *; omega) | omega)
    have hb2l0 := below_lt (b := w.heap.size + 1) hb2 (by first | (simp; done) | (simp; omega) | (simp at *; omega) | omega)
    clear hi hf HFI hV
    go_wp2
    refine bodyPost_ret (v := .tuple #[.agg #[.int .i64 0, .string ⟨#[]⟩, .string ⟨#[]⟩, .string ⟨#[]⟩, .int .i64 0], .bool false]) ?_ rfl ⟨?_, ?_⟩
    · simp [results, Tryd.results19, go_sem, hb2c0, hb1c1, hb2f0, hb1f1]
    · rw [HV.out]
    · (repeat' (first | (with_reducible exact Below.refl _ _) | (with_reducible assumption) | (with_reducible refine below_drewN ?_ _) | (with_reducible refine Below.drew ?_) | (with_reducible refine below_new ?_ (Nat.le_refl _) _) | (with_reducible refine Below.setCell ?_ ?_ _) | (with_reducible refine below_go ?_ (by assumption) (Nat.le_refl _)) | (simp; done) | (simp; omega) | omega))

end Go.Proofs.YtedmhafpaielmaaDoor
