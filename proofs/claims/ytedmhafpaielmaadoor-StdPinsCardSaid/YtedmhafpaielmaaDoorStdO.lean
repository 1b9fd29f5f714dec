/- Layer 16: names and kinds, by the program and by the reference. -/
import Derived.Test.YtedmhafpaielmaaDoorStdN
namespace Go.Proofs.YtedmhafpaielmaaDoor
open Go.RowKit
set_option linter.unusedVariables false
set_option linter.unusedSimpArgs false
attribute [local go_sem] ite_max ite_min vite_max vite_min ext_cell ext_frozen extS_cell extS_frozen

/-- the name of a kind -/
def nameOf (kind : Int) : ByteArray := match shL.find? (fun s => decide (s.kind = kind)) with | some s => s.name | none => ⟨#[]⟩
def rnameOf (kind : Int) : ByteArray := match rwL.find? (fun r => decide (r.kind = kind)) with | some r => r.name | none => ⟨#[]⟩
def rkindOf (nm : ByteArray) : Int := match rwL.find? (fun r => r.name.toList == nm.toList) with | some r => r.kind | none => 0

set_option maxRecDepth 100000 in
set_option maxHeartbeats 2000000 in
theorem name_any (kind : Int) (w : World) : Calls Tryd.prog 11 #[.int .i64 kind] w fun e w' => e = .returned (.string (nameOf kind)) ∧ Below w.heap.size w w' := by
  cases hf : shL.find? (fun s => decide (s.kind = kind)) with
  | none =>
    have hn : nameOf kind = ⟨#[]⟩ := by unfold nameOf; rw [hf]
    have HV := Lib.hid (ofV_none hf)
    rw [hn]
    clear hn hf
    go_enter Tryd.func11, Tryd.ntmps11
    go_wp2_with fail
    refine (of_any _ _).mono ?_
    rw [HV.out]
    rintro e w1 ⟨rfl, hb1⟩
    go_wp2
    go_ret
    exact ⟨rfl, by (repeat' (first | (with_reducible exact Below.refl _ _) | (with_reducible assumption) | (with_reducible refine below_drewN ?_ _) | (with_reducible refine Below.drew ?_) | (with_reducible refine below_new ?_ (Nat.le_refl _) _) | (with_reducible refine Below.setCell ?_ ?_ _) | (with_reducible refine below_go ?_ (by assumption) (Nat.le_refl _)) | (simp; done) | (simp; omega) | omega))⟩
  | some s =>
    have hn : nameOf kind = s.name := by unfold nameOf; rw [hf]
    have HV := Lib.hid (ofV_some hf)
    rw [hn]
    clear hn hf
    go_enter Tryd.func11, Tryd.ntmps11
    go_wp2_with fail
    refine (of_any _ _).mono ?_
    rw [HV.out]
    rintro e w1 ⟨rfl, hb1⟩
    go_wp2
    go_ret
    exact ⟨rfl, by (repeat' (first | (with_reducible exact Below.refl _ _) | (with_reducible assumption) | (with_reducible refine below_drewN ?_ _) | (with_reducible refine Below.drew ?_) | (with_reducible refine below_new ?_ (Nat.le_refl _) _) | (with_reducible refine Below.setCell ?_ ?_ _) | (with_reducible refine below_go ?_ (by assumption) (Nat.le_refl _)) | (simp; done) | (simp; omega) | omega))⟩

set_option maxRecDepth 100000 in
set_option maxHeartbeats 4000000 in
theorem rname_any (kind : Int) (w : World) : Calls Tryd.prog 12 #[.int .i64 kind] w fun e w' => e = .returned (.string (rnameOf kind)) ∧ Below w.heap.size w w' := by
  have HF := Lib.hid (rfind_at fun r => decide (r.kind = kind))
  obtain ⟨x, hx⟩ : ∃ x, rnameOf kind = x := ⟨_, rfl⟩
  rw [hx]
  have HX := Lib.hid hx
  clear hx
  go_enter Tryd.func12, Tryd.ntmps12
  go_wp2_with fail
  refine (rows_any w).mono ?_
  rintro e w1 ⟨rfl, hb1, hr1⟩
  have HR := Lib.hid hr1
  have hlt1 := hr1.lt
  have HB1 := Lib.hid hb1
  have hz1 := hb1.size
  clear hr1 hb1
  go_wp2_with fail
  go_loopw [4] (fun vi wr => ∃ i : Nat, i ≤ 21 ∧ vi = .int .i64 i ∧ Hid (∀ j, j < i → ∀ t, rwL[j]? = some t → (fun r => decide (r.kind = kind)) t = false) ∧ Below w1.heap.size w1 wr) (fun vi _ => 21 - (intOf vi).toNat)
  case atStart => exact ⟨0, by omega, rfl, Lib.hid (fun j hj => by omega), Below.refl _ _⟩
  case round =>
    obtain ⟨i, hi, rfl, HNO, hbr⟩ := hrel
    by_cases hlt : i < 21
    · obtain ⟨r, hr⟩ : ∃ r, rwL[i]? = some r := ⟨rwL[i]'(by rw [rwL_len]; exact hlt), List.getElem?_eq_getElem _⟩
      have HRr := Lib.hid (HR.out.below hbr)
      have c0 : wr.cell? ⟨w.heap.size + 21, i * 4, none⟩ = some (.int .i64 r.kind) := HRr.out.row i r hr 0 (by omega)
      have c1 : wr.cell? ⟨w.heap.size + 21, i * 4 + 1, none⟩ = some (.string r.name) := HRr.out.row i r hr 1 (by omega)
      have hi0 : (0 : Int) ≤ (i : Int) := by omega
      have hi1 : (i : Int) < 21 := by omega
      cases hk : (fun r : Rw => decide (r.kind = kind)) r
      · have hr' := Lib.hid hr
        have HK := Lib.hid hk
        have hkk : ¬ r.kind = kind := by simpa using hk
        clear hr hk
        go_wp2
        go_roundw
        case rel =>
          refine ⟨i + 1, by omega, by go_num, Lib.hid (fun j hj t ht => ?_), hbr⟩
          rcases Nat.lt_succ_iff_lt_or_eq.1 hj with h | rfl
          · exact HNO.out j h t ht
          · rw [hr'.out] at ht
            cases ht
            exact HK.out
        case measure => simp [intOf]; omega
      · have hfound : rwL.find? (fun r => decide (r.kind = kind)) = some r := by
          rcases HF.out with ⟨i', r', hi', hr', hf', hp', hn'⟩ | ⟨_, hno⟩
          · have : i' = i := by
              rcases Nat.lt_trichotomy i i' with h | h | h
              · have := hn' i h r hr
                exact absurd (Eq.trans (Eq.symm this) hk) (by decide)
              · exact h.symm
              · have := HNO.out i' h r' hr'
                exact absurd (Eq.trans (Eq.symm this) hp') (by decide)
            subst this
            rw [hr] at hr'
            cases hr'
            exact hf'
          · have := hno i r hr
            exact absurd (Eq.trans (Eq.symm this) hk) (by decide)
        have hxr : x = r.name := by
          rw [← HX.out]
          unfold rnameOf
          rw [hfound]
        have HXR := Lib.hid hxr
        have hkk : r.kind = kind := by simpa using hk
        clear hr hk hfound hxr
        go_wp2
        go_ret
        rw [HXR.out]
        exact ⟨rfl, HB1.out.trans (hbr.mono HB1.out.size)⟩
    · obtain rfl : i = 21 := by omega
      have hxr : x = ⟨#[]⟩ := by
        rcases HF.out with ⟨i, r, hi21, hr, _, hp, _⟩ | ⟨hno, _⟩
        · exact absurd (Eq.trans (Eq.symm (HNO.out i hi21 r hr)) hp) (by decide)
        · rw [← HX.out]
          unfold rnameOf
          rw [hno]
      have HXR := Lib.hid hxr
      clear hxr
      go_wp2
      go_ret
      rw [HXR.out]
      exact ⟨rfl, HB1.out.trans (hbr.mono HB1.out.size)⟩

set_option maxRecDepth 100000 in
set_option maxHeartbeats 4000000 in
theorem rkind_any (nm : ByteArray) (w : World) : Calls Tryd.prog 14 #[.string nm] w fun e w' => e = .returned (.int .i64 (rkindOf nm)) ∧ Below w.heap.size w w' := by
  have HF := Lib.hid (rfind_at fun r => r.name.toList == nm.toList)
  obtain ⟨x, hx⟩ : ∃ x, rkindOf nm = x := ⟨_, rfl⟩
  rw [hx]
  have HX := Lib.hid hx
  clear hx
  go_enter Tryd.func14, Tryd.ntmps14
  go_wp2_with fail
  refine (rows_any w).mono ?_
  rintro e w1 ⟨rfl, hb1, hr1⟩
  have HR := Lib.hid hr1
  have hlt1 := hr1.lt
  have HB1 := Lib.hid hb1
  have hz1 := hb1.size
  clear hr1 hb1
  go_wp2_with fail
  go_loopw [4] (fun vi wr => ∃ i : Nat, i ≤ 21 ∧ vi = .int .i64 i ∧ Hid (∀ j, j < i → ∀ t, rwL[j]? = some t → (fun r => r.name.toList == nm.toList) t = false) ∧ Below w1.heap.size w1 wr) (fun vi _ => 21 - (intOf vi).toNat)
  case atStart => exact ⟨0, by omega, rfl, Lib.hid (fun j hj => by omega), Below.refl _ _⟩
  case round =>
    obtain ⟨i, hi, rfl, HNO, hbr⟩ := hrel
    by_cases hlt : i < 21
    · obtain ⟨r, hr⟩ : ∃ r, rwL[i]? = some r := ⟨rwL[i]'(by rw [rwL_len]; exact hlt), List.getElem?_eq_getElem _⟩
      have HRr := Lib.hid (HR.out.below hbr)
      have c0 : wr.cell? ⟨w.heap.size + 21, i * 4, none⟩ = some (.int .i64 r.kind) := HRr.out.row i r hr 0 (by omega)
      have c1 : wr.cell? ⟨w.heap.size + 21, i * 4 + 1, none⟩ = some (.string r.name) := HRr.out.row i r hr 1 (by omega)
      have hi0 : (0 : Int) ≤ (i : Int) := by omega
      have hi1 : (i : Int) < 21 := by omega
      cases hk : (fun r : Rw => r.name.toList == nm.toList) r
      · have hr' := Lib.hid hr
        have HK := Lib.hid hk
        have hkk : (r.name.toList == nm.toList) = false := hk
        clear hr hk
        go_wp2
        go_roundw
        case rel =>
          refine ⟨i + 1, by omega, by go_num, Lib.hid (fun j hj t ht => ?_), hbr⟩
          rcases Nat.lt_succ_iff_lt_or_eq.1 hj with h | rfl
          · exact HNO.out j h t ht
          · rw [hr'.out] at ht
            cases ht
            exact HK.out
        case measure => simp [intOf]; omega
      · have hfound : rwL.find? (fun r => r.name.toList == nm.toList) = some r := by
          rcases HF.out with ⟨i', r', hi', hr', hf', hp', hn'⟩ | ⟨_, hno⟩
          · have : i' = i := by
              rcases Nat.lt_trichotomy i i' with h | h | h
              · have := hn' i h r hr
                exact absurd (Eq.trans (Eq.symm this) hk) (by decide)
              · exact h.symm
              · have := HNO.out i' h r' hr'
                exact absurd (Eq.trans (Eq.symm this) hp') (by decide)
            subst this
            rw [hr] at hr'
            cases hr'
            exact hf'
          · have := hno i r hr
            exact absurd (Eq.trans (Eq.symm this) hk) (by decide)
        have hxr : x = r.kind := by
          rw [← HX.out]
          unfold rkindOf
          rw [hfound]
        have HXR := Lib.hid hxr
        have hkk : (r.name.toList == nm.toList) = true := hk
        clear hr hk hfound hxr
        go_wp2
        go_ret
        rw [HXR.out]
        exact ⟨rfl, HB1.out.trans (hbr.mono HB1.out.size)⟩
    · obtain rfl : i = 21 := by omega
      have hxr : x = 0 := by
        rcases HF.out with ⟨i, r, hi21, hr, _, hp, _⟩ | ⟨hno, _⟩
        · exact absurd (Eq.trans (Eq.symm (HNO.out i hi21 r hr)) hp) (by decide)
        · rw [← HX.out]
          unfold rkindOf
          rw [hno]
      have HXR := Lib.hid hxr
      clear hxr
      go_wp2
      go_ret
      rw [HXR.out]
      exact ⟨rfl, HB1.out.trans (hbr.mono HB1.out.size)⟩

end Go.Proofs.YtedmhafpaielmaaDoor
