/- Layer 16: the kind of a name; the laws are awake. -/
import Derived.Test.YtedmhafpaielmaaDoorStdH
namespace Go.Proofs.YtedmhafpaielmaaDoor
open Go.RowKit
set_option linter.unusedVariables false
set_option linter.unusedSimpArgs false
attribute [local go_sem] ite_max ite_min vite_max vite_min ext_cell ext_frozen extS_cell extS_frozen

/-- the kind of a name -/
def kindOf (nm : ByteArray) : Int := match shL.find? (fun s => s.name.toList == nm.toList) with
  | some s => s.kind
  | none => 0
theorem kindOf_some {nm : ByteArray} {s : Sh} (h : shL.find? (fun s => s.name.toList == nm.toList) = some s) : kindOf nm = s.kind := by
  unfold kindOf
  rw [h]
theorem kindOf_none {nm : ByteArray} (h : shL.find? (fun s => s.name.toList == nm.toList) = none) : kindOf nm = 0 := by
  unfold kindOf
  rw [h]

set_option maxRecDepth 100000 in
set_option maxHeartbeats 2000000 in
theorem kind_any (nm : ByteArray) (w : World) : Calls Tryd.prog 13 #[.string nm] w fun e w' => e = .returned (.int .i64 (kindOf nm)) ∧ Below w.heap.size w w' := by
  have HFI := Lib.hid (findI_cases fun s => s.name.toList == nm.toList)
  have hP : ∃ p : Sh → Bool, p = fun s => s.name.toList == nm.toList := ⟨_, rfl⟩
  obtain ⟨p, hp⟩ := hP
  rw [← hp] at HFI
  have HP := Lib.hid hp
  obtain ⟨kd, hkd⟩ : ∃ kd, kindOf nm = kd := ⟨_, rfl⟩
  rw [hkd]
  have HKD := Lib.hid hkd
  clear hp hkd
  go_enter Tryd.func13, Tryd.ntmps13
  go_wp2_with fail
  refine (sheets_any _).mono ?_
  rintro e w1 ⟨rfl, hb1, hs1, hl1⟩
  have hz : w.heap.size + 1 < w1.heap.size := by simpa using hl1
  have hs1' : ShAt (w.heap.size + 1) w1 := by simpa using hs1
  obtain ⟨hb1c, hb1f⟩ := bcell hb1
  have hb1z := hb1.size
  have hb1c0 := fun o => hb1c (w.heap.size) o (by first | (simp; done) | (simp; omega) | (simp at *; omega) | omega)
  have hb1f0 := fun o => hb1f (w.heap.size) o (by first | (simp; done) | (simp; omega) | (simp at *; omega) | omega)
  have hb1l0 := below_lt (b := w.heap.size) hb1 (by first | (simp; done) | (simp; omega) | (simp at *; omega) | omega)
  have HS1 := Lib.hid hs1'
  clear hs1 hs1'
  go_wp2_with fail
  refine (ix_sheet 24 _ p (w.heap.size + 1) w1 (by omega) HS1.out cf_kind1 (fun s w' hb' => ?_)).mono ?_
  · rw [HP.out]
    refine kind1_any s w.heap.size nm w' ?_ ?_
    · rw [hb'.cell (p := ⟨w.heap.size, 0, none⟩) (by show w.heap.size < w1.heap.size; omega), hb1c0]
      go_simp
    · have := hb'.size
      omega
  rintro e w2 ⟨rfl, hb2⟩
  rcases HFI.out with ⟨i, s, hi, hi21, hs, hf⟩ | ⟨hi, hf⟩
  · rw [hi]
    have hcells := HS1.out.below (by omega) hb2 i s hs
    have c0 : w2.cell? ⟨w.heap.size + 1, i * 5, none⟩ = some (.int .i64 s.kind) := hcells 0 (by omega)
    have hk0 : (0 : Int) ≤ (i : Int) := by omega
    have hkn : (i : Int) < 21 := by omega
    have hno : ¬ ((i : Int) < 0) := by omega
    have hV : kd = s.kind := by rw [← HKD.out]; exact kindOf_some (by rw [← HP.out]; exact hf)
    have HV := Lib.hid hV
    clear hcells hs hi hf HFI hV
    go_wp2
    go_ret
    rw [HV.out]
    exact ⟨rfl, by (repeat' (first | (with_reducible exact Below.refl _ _) | (with_reducible assumption) | (with_reducible refine below_drewN ?_ _) | (with_reducible refine Below.drew ?_) | (with_reducible refine below_new ?_ (Nat.le_refl _) _) | (with_reducible refine Below.setCell ?_ ?_ _) | (with_reducible refine below_go ?_ (by assumption) (Nat.le_refl _)) | (simp; done) | (simp; omega) | omega))⟩
  · rw [hi]
    have hV : kd = 0 := by rw [← HKD.out]; exact kindOf_none (by rw [← HP.out]; exact hf)
    have HV := Lib.hid hV
    clear hi hf HFI hV
    go_wp2
    go_ret
    rw [HV.out]
    exact ⟨rfl, by (repeat' (first | (with_reducible exact Below.refl _ _) | (with_reducible assumption) | (with_reducible refine below_drewN ?_ _) | (with_reducible refine Below.drew ?_) | (with_reducible refine below_new ?_ (Nat.le_refl _) _) | (with_reducible refine Below.setCell ?_ ?_ _) | (with_reducible refine below_go ?_ (by assumption) (Nat.le_refl _)) | (simp; done) | (simp; omega) | omega))⟩

theorem ton_step_off (p q e : Int) : StepC 10 4 [0, p, q, e] [0, p, 0, 0] := step_ton 0 p q e _ fun g k w h => ton_off p q e g 4 k w (by omega) h
theorem ton_step_on (a p q e : Int) (ha : ¬ a = 0) (hp : p ≤ 9223372036854775807) (he : -9223372036854775808 ≤ e) : StepC 10 4 [a, p, q, e] [a, p, tonQ e p, upI e p] := step_ton a p q e _ fun g k w h => ton_on a p q e g 4 k w ha (by omega) h hp he

set_option maxRecDepth 100000 in
set_option maxHeartbeats 2000000 in
theorem awake16 (w : World) (htab : Blanks w) : Calls Tryd.prog 7 #[] w fun e w' => e = .returned (.bool true) ∧ Below w.heap.size w w' := by
  have HT := Lib.hid htab
  clear htab
  go_enter Tryd.func7, Tryd.ntmps7
  go_wp2_with fail
  refine (ton_step_on 1 2 0 0 (by decide) (by decide) (by decide) w.heap.size 4 _ (row4 ?z1 ?z2 ?z3 ?z4 ?z5 ?z6) (HT.out.on ?z7)).mono ?_
  case z1 => simp
  case z2 => intro o; go_simp
  case z3 => go_simp
  case z4 => go_simp
  case z5 => go_simp
  case z6 => go_simp
  case z7 => (repeat' (first | (with_reducible exact Below.refl _ _) | (with_reducible assumption) | (with_reducible refine below_drewN ?_ _) | (with_reducible refine Below.drew ?_) | (with_reducible refine below_new ?_ (Nat.le_refl _) _) | (with_reducible refine Below.setCell ?_ ?_ _) | (with_reducible refine below_go ?_ (by assumption) (Nat.le_refl _)) | (simp; done) | (simp; omega) | omega))
  rintro e w1 ⟨g1, c1, rfl, hg1, hr1, hb1⟩
  rw [show tonQ 0 2 = 0 from rfl, show upI 0 2 = 1 from rfl] at hr1
  have HR1 := Lib.hid hr1
  have HB1 : Hid (Below w.heap.size w w1) := Lib.hid (by (repeat' (first | (with_reducible exact Below.refl _ _) | (with_reducible assumption) | (with_reducible refine below_drewN ?_ _) | (with_reducible refine Below.drew ?_) | (with_reducible refine below_new ?_ (Nat.le_refl _) _) | (with_reducible refine Below.setCell ?_ ?_ _) | (with_reducible refine below_go ?_ (by assumption) (Nat.le_refl _)) | (simp; done) | (simp; omega) | omega)))
  clear hr1 hb1
  go_wp2_with fail
  refine (ton_step_on 1 2 0 1 (by decide) (by decide) (by decide) g1 c1 _ HR1.out (HT.out.on HB1.out)).mono ?_
  rintro e w2 ⟨g2, c2, rfl, hg2, hr2, hb2⟩
  rw [show tonQ 1 2 = 1 from rfl, show upI 1 2 = 2 from rfl] at hr2
  have c2 := hr2.cell 2 _ rfl
  have c3 := hr2.cell 3 _ rfl
  have HB2 : Hid (Below w.heap.size w w2) := Lib.hid (HB1.out.trans (hb2.mono HB1.out.size))
  clear hr2 hb2
  go_wp2_with fail
  refine (kind_any _ _).mono ?_
  rintro e w3 ⟨rfl, hb3⟩
  rw [show kindOf ⟨#[77, 67, 95, 83, 116, 111, 112]⟩ = 22 from by kernel_rfl]
  go_wp2
  go_ret
  exact ⟨rfl, HB2.out.trans (hb3.mono HB2.out.size)⟩

end Go.Proofs.YtedmhafpaielmaaDoor
