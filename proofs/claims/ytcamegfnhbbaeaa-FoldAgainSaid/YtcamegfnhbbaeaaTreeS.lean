/- Two rows of one and the same expressions are the same. -/
import Derived.Test.YtcamegfnhbbaeaaTreeI
import Derived.Test.YtcamegfnhbbaeaaWild
namespace Go.Proofs.Ytcamegfnhbbaeaa
open Go.RowKit
set_option linter.unusedVariables false
set_option linter.unusedSimpArgs false
attribute [local go_sem] ite_max ite_min vite_max vite_min ext_cell ext_frozen extS_cell extS_frozen

set_option maxRecDepth 100000 in
set_option maxHeartbeats 4000000 in
theorem sameExprs_any : ∀ (k : Nat) (xs : List Ex), SizeOf.sizeOf xs < k → ∀ (w : World) (A B : Option Addr) (ca cb : Nat) (ln : Bool), RowE w A xs ca → RowE w B xs cb → Calls Try.prog 59 #[.slice A xs.length ca, .slice B xs.length cb, .bool ln] w fun e w' => e = .returned (.bool true) ∧ Below w.heap.size w w' := by
  intro k
  induction k with
  | zero => intro xs h; omega
  | succ k ih =>
    intro xs hsz w A B ca cb ln hA hB
    have HIH := Lib.hid ih
    have HA := Lib.hid hA
    have HB := Lib.hid hB
    have hla := hA.1
    have hca := hA.2.1
    have hlb := hB.1
    have hcb := hB.2.1
    obtain ⟨n, hn⟩ : ∃ n, xs.length = n := ⟨_, rfl⟩
    rw [hn] at hla hlb ⊢
    have HN := Lib.hid hn
    clear ih hA hB hn
    go_enter Try.func59, Try.ntmps59
    go_wp2_with fail
    go_loopw [7] (fun vi wr => ∃ (i : Nat), i ≤ n ∧ vi = .int .i64 i ∧ Below w.heap.size w wr) (fun vi _ => n - (intOf vi).toNat)
    case atStart => exact ⟨0, by omega, rfl, Below.refl _ _⟩
    case round =>
      obtain ⟨i, hi, rfl, hbr⟩ := hrel
      by_cases hlt : i < n
      · obtain ⟨b1, o1, x, A1, k1, rfl, hbl1, hx1, hat1, hsub1, hr1⟩ := RowE.at (HA.out.below hbr) (i := i) (by rw [HN.out]; exact hlt)
        obtain ⟨b2, o2, y, A2, k2, rfl, hbl2, hx2, hat2, hsub2, hr2⟩ := RowE.at (HB.out.below hbr) (i := i) (by rw [HN.out]; exact hlt)
        obtain rfl : x = y := by rw [hx1] at hx2; exact Option.some.inj hx2
        have hi0 : (0 : Int) ≤ (i : Int) ∧ (i : Int) < (n : Int) := by omega
        have HX := Lib.hid hx1
        have HR1 := Lib.hid hr1
        have HR2 := Lib.hid hr2
        have HS1 := Lib.hid hsub1
        have HS2 := Lib.hid hsub2
        have HB1 := Lib.hid hbr
        clear hx1 hx2 hr1 hr2 hsub1 hsub2 hat1 hat2
        have hz := hbr.size
        clear hbr
        have c0 : wr.cell? ⟨b1, o1 + i * 6, none⟩ = some (.int .i64 x.op) := HR1.out 0 _ rfl
        have c1 : wr.cell? ⟨b1, o1 + i * 6 + 1, none⟩ = some (.int .i64 x.n) := HR1.out 1 _ rfl
        have c2 : wr.cell? ⟨b1, o1 + i * 6 + 2, none⟩ = some (.string x.name) := HR1.out 2 _ rfl
        have c3 : wr.cell? ⟨b1, o1 + i * 6 + 3, none⟩ = some (.string x.field) := HR1.out 3 _ rfl
        have c4 : wr.cell? ⟨b1, o1 + i * 6 + 4, none⟩ = some (.slice A1 x.sub.length k1) := HR1.out 4 _ rfl
        have c5 : wr.cell? ⟨b1, o1 + i * 6 + 5, none⟩ = some (.int .i64 x.line) := HR1.out 5 _ rfl
        have e0 : wr.cell? ⟨b2, o2 + i * 6, none⟩ = some (.int .i64 x.op) := HR2.out 0 _ rfl
        have e1 : wr.cell? ⟨b2, o2 + i * 6 + 1, none⟩ = some (.int .i64 x.n) := HR2.out 1 _ rfl
        have e2 : wr.cell? ⟨b2, o2 + i * 6 + 2, none⟩ = some (.string x.name) := HR2.out 2 _ rfl
        have e3 : wr.cell? ⟨b2, o2 + i * 6 + 3, none⟩ = some (.string x.field) := HR2.out 3 _ rfl
        have e4 : wr.cell? ⟨b2, o2 + i * 6 + 4, none⟩ = some (.slice A2 x.sub.length k2) := HR2.out 4 _ rfl
        have e5 : wr.cell? ⟨b2, o2 + i * 6 + 5, none⟩ = some (.int .i64 x.line) := HR2.out 5 _ rfl
        go_upto_region 6 with (fail)
        go_region
        all_goals
          cases ln
          all_goals
            go_wp2_with fail
            refine (HIH.out x.sub (by have := sub_lt HX.out; omega) _ _ _ _ _ _ (RowE.below HS1.out ?bx1) (RowE.below HS2.out ?bx2)).mono ?_
            case bx1 => (repeat' (first | (with_reducible exact Below.refl _ _) | (with_reducible assumption) | (with_reducible refine below_drewN ?_ _) | (with_reducible refine Below.drew ?_) | (with_reducible refine below_new ?_ (Nat.le_refl _) _) | (with_reducible refine Below.setCell ?_ ?_ _) | (with_reducible refine below_go ?_ (by assumption) (Nat.le_refl _)) | (simp; done) | (simp; omega) | omega))
            case bx2 => (repeat' (first | (with_reducible exact Below.refl _ _) | (with_reducible assumption) | (with_reducible refine below_drewN ?_ _) | (with_reducible refine Below.drew ?_) | (with_reducible refine below_new ?_ (Nat.le_refl _) _) | (with_reducible refine Below.setCell ?_ ?_ _) | (with_reducible refine below_go ?_ (by assumption) (Nat.le_refl _)) | (simp; done) | (simp; omega) | omega))
            rintro e w2 ⟨rfl, hb2⟩
            have hB2 : Below wr.heap.size wr w2 := by (repeat' (first | (with_reducible exact Below.refl _ _) | (with_reducible assumption) | (with_reducible refine below_drewN ?_ _) | (with_reducible refine Below.drew ?_) | (with_reducible refine below_new ?_ (Nat.le_refl _) _) | (with_reducible refine Below.setCell ?_ ?_ _) | (with_reducible refine below_go ?_ (by assumption) (Nat.le_refl _)) | (simp; done) | (simp; omega) | omega))
            clear hb2
            go_wp2
            go_roundw
            case rel => exact ⟨i + 1, by omega, by go_num, HB1.out.trans (hB2.mono HB1.out.size)⟩
            case measure => simp [intOf]; omega
      · obtain rfl : i = n := by omega
        go_wp2
        go_ret
        exact ⟨rfl, hbr⟩

end Go.Proofs.Ytcamegfnhbbaeaa
