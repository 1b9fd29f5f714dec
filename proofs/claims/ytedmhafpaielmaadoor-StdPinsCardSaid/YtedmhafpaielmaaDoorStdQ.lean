/- Layer 16: any kind has the document's pins and name, any name its kind: the walk. -/
import Derived.Test.YtedmhafpaielmaaDoorStdP
namespace Go.Proofs.YtedmhafpaielmaaDoor
open Go.RowKit
set_option linter.unusedVariables false
set_option linter.unusedSimpArgs false
attribute [local go_sem] ite_max ite_min vite_max vite_min ext_cell ext_frozen extS_cell extS_frozen

set_option maxRecDepth 100000 in
set_option maxHeartbeats 4000000 in
theorem pins_law (kind : Int) (nm : ByteArray) (w : World) (htab : Blanks w) :
    Calls Tryd.prog 6 #[.int .i64 kind, .string nm] w fun e w' => e = .returned (.bool true) ∧ Below w.heap.size w w' := by
  have HT := Lib.hid htab
  obtain ⟨hxs, hcs, hns, hks⟩ := kinds_is kind
  have hkn := kind_is nm
  have hform := pins_form kind
  have hle := rcount_le kind
  obtain ⟨n, hn⟩ : ∃ n, rcount kind = n := ⟨_, rfl⟩
  obtain ⟨xs, hx⟩ : ∃ xs, rpinsOf kind = xs := ⟨_, rfl⟩
  obtain ⟨nk, hnk⟩ : ∃ nk, rnameOf kind = nk := ⟨_, rfl⟩
  obtain ⟨kn, hknn⟩ : ∃ kn, rkindOf nm = kn := ⟨_, rfl⟩
  rw [hx] at hxs hform
  rw [hn] at hcs hform hle
  rw [hnk] at hns
  rw [hknn] at hkn
  rw [hcs, hns] at hks
  have HX1 := Lib.hid hxs
  have HX2 := Lib.hid hx
  have HC1 := Lib.hid hcs
  have HC2 := Lib.hid hn
  have HN1 := Lib.hid hns
  have HN2 := Lib.hid hnk
  have HK1 := Lib.hid hkn
  have HK2 := Lib.hid hknn
  have HKS := Lib.hid hks
  have HFORM := Lib.hid hform
  clear htab hxs hx hcs hn hns hnk hkn hknn hks hform
  go_enter Tryd.func6, Tryd.ntmps6
  go_wp2_with fail
  refine (awake16 w HT.out).mono ?_
  rintro e w1 ⟨rfl, hb1⟩
  have HB1 := Lib.hid hb1
  by_cases hlen : nm.size ≤ 100
  · have hln : ¬ (100 < (nm.size : Int)) := by omega
    clear hb1
    go_wp2_with fail
    refine (pins_any kind w1 (HT.out.on HB1.out)).mono ?_
    rintro e w2 ⟨v1, rfl, o1, hb2⟩
    rw [HC1.out, HX1.out] at o1
    have HO1 := Lib.hid o1
    have HB2 := Lib.hid (HB1.out.trans (hb2.mono HB1.out.size))
    clear o1 hb2
    go_wp2_with fail
    refine (rpins_any kind w2).mono ?_
    rintro e w3 ⟨v2, rfl, o2, hb3⟩
    rw [HC2.out, HX2.out] at o2
    have HO2 := Lib.hid o2
    have HO13 := Lib.hid (owns_below HO1.out hb3)
    have HB3 := Lib.hid (HB2.out.trans (hb3.mono HB2.out.size))
    clear o2 hb3 HO1
    obtain ⟨A1, k1, hv1, h11, h12, -⟩ := own_form HO13.out
    obtain ⟨A2, k2, hv2, h21, h22, -⟩ := own_form HO2.out
    subst hv1 hv2
    unfold maxLen at h12 h22
    go_upto_region 6 with (fail)
    go_wp2_with fail
    refine (name_any kind w3).mono ?_
    rw [HN1.out]
    rintro e w4 ⟨rfl, hb4⟩
    go_wp2_with fail
    refine (rname_any kind w4).mono ?_
    rw [HN2.out]
    rintro e w5 ⟨rfl, hb5⟩
    go_wp2_with fail
    refine (kind_any nm w5).mono ?_
    rw [HK1.out]
    rintro e w6 ⟨rfl, hb6⟩
    go_wp2_with fail
    refine (rkind_any nm w6).mono ?_
    rw [HK2.out]
    rintro e w7 ⟨rfl, hb7⟩
    have hb37 : Below w3.heap.size w3 w7 := hb4.trans ((hb5.trans ((hb6.trans (hb7.mono hb6.size)).mono hb5.size)).mono hb4.size)
    have HO17 := Lib.hid (owns_below HO13.out hb37)
    have HO27 := Lib.hid (owns_below HO2.out hb37)
    have HB7 := Lib.hid (HB3.out.trans (hb37.mono HB3.out.size))
    clear hb4 hb5 hb6 hb7 hb37 HO13 HO2
    go_wp2_with fail
    go_loopw [7] (fun u wr => ∃ k : Nat, k ≤ n ∧ u = .int .i64 k ∧ Below w7.heap.size w7 wr) (fun u _ => n - (intOf u).toNat)
    case atStart => exact ⟨0, by omega, rfl, Below.refl _ _⟩
    case round =>
      obtain ⟨k, hk, rfl, hbr⟩ := hrel
      have HR1 := Lib.hid (owns_below HO17.out hbr)
      have HR2 := Lib.hid (owns_below HO27.out hbr)
      by_cases hlt : k < n
      · obtain ⟨g1, c1, he1, -, hg1⟩ := HR1.out.form (by omega)
        obtain ⟨g2, c2, he2, -, hg2⟩ := HR2.out.form (by omega)
        cases he1
        cases he2
        obtain ⟨s, t, b, f0, f1, f2⟩ := HFORM.out k hlt
        have hcell : ∀ g, ∀ j u, xs[j]? = some u → (∀ j u, xs[j]? = some u → wr.cell? ((⟨g, 0, none⟩ : Addr).add j) = some u) → wr.cell? ⟨g, j, none⟩ = some u := by
          intro g j u hu h
          have := h j u hu
          have had : (⟨g, 0, none⟩ : Addr).add j = ⟨g, j, none⟩ := by cases j <;> simp [Addr.add]
          rwa [had] at this
        have d0 := hcell g1 _ _ f0 (HR1.out.cells rfl)
        have d1 := hcell g1 _ _ f1 (HR1.out.cells rfl)
        have d2 := hcell g1 _ _ f2 (HR1.out.cells rfl)
        have e0 := hcell g2 _ _ f0 (HR2.out.cells rfl)
        have e1 := hcell g2 _ _ f1 (HR2.out.cells rfl)
        have e2 := hcell g2 _ _ f2 (HR2.out.cells rfl)
        have hkI : (0 : Int) ≤ (k : Int) ∧ (k : Int) < (n : Int) := by omega
        clear hcell f0 f1 f2
        go_upto_region 11 with (fail)
        refine wp_region_ext (by kernel_rfl) (by kernel_rfl) ?_
        repeat (go_big_quiet_step (fail))
        refine wpQuiet_nil ?_
        intro v8 hv8
        replace hv8 := ext_below hv8
        go_wp2
        go_roundw
        case rel => exact ⟨k + 1, by omega, by go_num, hbr.trans (hv8.mono hbr.size)⟩
        case measure => simp [intOf]; omega
      · obtain rfl : k = n := by omega
        by_cases h0 : k = 0
        · subst h0
          go_wp2
          go_ret
          exact ⟨rfl, HB7.out.trans (hbr.mono HB7.out.size)⟩
        · have hki : ¬ (k : Int) = 0 := by omega
          have hkb : ((k : Int) == 0) = false := by simpa using h0
          go_wp2_with fail
          refine (name_any kind wr).mono ?_
          rw [HN1.out]
          rintro e w8 ⟨rfl, hb8⟩
          go_wp2_with fail
          refine (kind_any nk w8).mono ?_
          rw [HKS.out h0]
          rintro e w9 ⟨rfl, hb9⟩
          go_wp2
          go_ret
          exact ⟨rfl, HB7.out.trans ((hbr.trans ((hb8.trans (hb9.mono hb8.size)).mono hbr.size)).mono HB7.out.size)⟩
  · have hln : 100 < (nm.size : Int) := by omega
    go_wp2
    go_ret
    exact ⟨rfl, HB1.out⟩

end Go.Proofs.YtedmhafpaielmaaDoor
