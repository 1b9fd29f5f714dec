/- Layer 12: two rows of numbers are the same or not. -/
import Derived.Test.YtddakmlnkffgiaaLineG
import Derived.BigQuiet
namespace Go.Proofs.Ytddakmlnkffgiaa
open Go.RowKit
set_option linter.unusedVariables false
set_option linter.unusedSimpArgs false
attribute [local go_sem] ite_max ite_min vite_max vite_min ext_cell ext_frozen

def intsC (xs : List Int) : List Value := xs.map fun x => .int .i64 x
theorem Lies.num {w : World} {B n : Nat} {A : Option Addr} {xs : List Int} (h : Lies w B 1 A n (intsC xs)) (k : Nat) (hk : k < n) :
    ∃ b off x, A = some ⟨b, off, none⟩ ∧ b < B ∧ xs[k]? = some x ∧ w.cell? ⟨b, off + k, none⟩ = some (.int .i64 x) := by
  obtain ⟨b, off, e, hb, hc⟩ := h.2 (by omega)
  have hl : xs.length = n := by
    have := h.1
    rw [intsC, List.length_map] at this
    omega
  refine ⟨b, off, xs[k], e, hb, List.getElem?_eq_getElem (by omega), hc k _ ?_⟩
  rw [intsC, List.getElem?_map, List.getElem?_eq_getElem (by omega)]
  rfl
theorem Lies.nums {w : World} {B n : Nat} {A : Option Addr} {xs : List Int} (h : Lies w B 1 A n (intsC xs)) : xs.length = n := by
  have := h.1
  rw [intsC, List.length_map] at this
  omega
theorem take_next {α : Type} {xs ys : List α} {k : Nat} {x : α} (h : xs.take k = ys.take k) (hx : xs[k]? = some x) (hy : ys[k]? = some x) : xs.take (k + 1) = ys.take (k + 1) := by
  obtain ⟨h1, e1⟩ := List.getElem?_eq_some_iff.1 hx
  obtain ⟨h2, e2⟩ := List.getElem?_eq_some_iff.1 hy
  rw [List.take_succ_eq_append_getElem h1, List.take_succ_eq_append_getElem h2, h, e1, e2]

set_option maxRecDepth 100000 in
set_option maxHeartbeats 1000000 in
theorem same_ints (xs ys : List Int) (A D : Option Addr) (n m c d : Nat) (r : Bool) (w : World) (hx : Lies w w.heap.size 1 A n (intsC xs)) (hy : Lies w w.heap.size 1 D m (intsC ys))
    (hc : n ≤ c ∧ c ≤ 9223372036854775807) (hd : m ≤ d ∧ d ≤ 9223372036854775807) (hr : decide (xs = ys) = r) :
    Calls Try.prog 36 #[.slice A n c, .slice D m d] w fun e w' => e = .returned (.bool r) ∧ Below w.heap.size w w' := by
  have l1 := hx.nums
  have l2 := hy.nums
  have HX := Lib.hid hx
  have HY := Lib.hid hy
  by_cases h : n = m
  · subst h
    have HL1 := Lib.hid l1
    have HL2 := Lib.hid l2
    have HR := Lib.hid hr
    clear hx hy hr l1 l2
    go_enter Try.func36, Try.ntmps36
    go_wp2_with fail
    go_loopw [5] (fun u wr => ∃ k : Nat, k ≤ n ∧ u = .int .i64 k ∧ Hid (xs.take k = ys.take k) ∧ Below w.heap.size w wr) (fun u _ => n - (intOf u).toNat)
    case atStart => exact ⟨0, by omega, rfl, Lib.hid (by simp), Below.refl _ _⟩
    case round =>
      obtain ⟨k, hk, rfl, HK, hbr⟩ := hrel
      by_cases hlt : k < n
      · obtain ⟨b, off, x, rfl, hb, hxk, hcell⟩ := HX.out.num k hlt
        obtain ⟨b2, off2, y, rfl, hb2, hyk, hcell2⟩ := HY.out.num k hlt
        have h0 := (hbr.cell (p := ⟨b, off + k, none⟩) hb).trans hcell
        have h1 := (hbr.cell (p := ⟨b2, off2 + k, none⟩) hb2).trans hcell2
        have hk0 : (0 : Int) ≤ (k : Int) := by omega
        have hkn : (k : Int) < (n : Int) := by omega
        have HXK := Lib.hid hxk
        have HYK := Lib.hid hyk
        clear hcell hcell2 hxk hyk HX HY
        by_cases hxy : x = y
        · subst hxy
          have HS := Lib.hid (take_next HK.out HXK.out HYK.out)
          go_wp2_with fail
          go_quiet (fail)
          go_wp2
          go_roundw
          case rel => exact ⟨k + 1, by omega, by go_num, HS, by (repeat' (first | (with_reducible exact Below.refl _ _) | (with_reducible assumption) | (with_reducible refine below_drewN ?_ _) | (with_reducible refine Below.drew ?_) | (with_reducible refine below_new ?_ (Nat.le_refl _) _) | (with_reducible refine Below.setCell ?_ ?_ _) | (with_reducible refine below_go ?_ (by assumption) (Nat.le_refl _)) | (simp; done) | (simp; omega) | omega))⟩
          case measure => simp [intOf]; omega
        · have hne : (x == y) = false := by simpa using hxy
          obtain rfl : r = false := by
            rw [← HR.out]
            refine decide_eq_false fun he => hxy ?_
            have e1 := HXK.out
            rw [he, HYK.out] at e1
            exact (Option.some.inj e1).symm
          go_wp2_with fail
          go_quiet (fail)
          go_wp2
          go_ret
          exact ⟨rfl, by (repeat' (first | (with_reducible exact Below.refl _ _) | (with_reducible assumption) | (with_reducible refine below_drewN ?_ _) | (with_reducible refine Below.drew ?_) | (with_reducible refine below_new ?_ (Nat.le_refl _) _) | (with_reducible refine Below.setCell ?_ ?_ _) | (with_reducible refine below_go ?_ (by assumption) (Nat.le_refl _)) | (simp; done) | (simp; omega) | omega))⟩
      · obtain rfl : k = n := by omega
        obtain rfl : r = true := by
          rw [← HR.out]
          have := HK.out
          rw [List.take_of_length_le (by rw [HL1.out]; exact Nat.le_refl _), List.take_of_length_le (by rw [HL2.out]; exact Nat.le_refl _)] at this
          exact decide_eq_true this
        go_wp2
        go_ret
        exact ⟨rfl, by (repeat' (first | (with_reducible exact Below.refl _ _) | (with_reducible assumption) | (with_reducible refine below_drewN ?_ _) | (with_reducible refine Below.drew ?_) | (with_reducible refine below_new ?_ (Nat.le_refl _) _) | (with_reducible refine Below.setCell ?_ ?_ _) | (with_reducible refine below_go ?_ (by assumption) (Nat.le_refl _)) | (simp; done) | (simp; omega) | omega))⟩
  · obtain rfl : r = false := by
      rw [← hr]
      exact decide_eq_false fun he => h (by rw [← l1, ← l2, he])
    have hne : ((n : Int) == (m : Int)) = false := by simp; omega
    clear hx hy hr l1 l2
    go_enter Try.func36, Try.ntmps36
    go_wp2
    go_ret
    exact ⟨rfl, by (repeat' (first | (with_reducible exact Below.refl _ _) | (with_reducible assumption) | (with_reducible refine below_drewN ?_ _) | (with_reducible refine Below.drew ?_) | (with_reducible refine below_new ?_ (Nat.le_refl _) _) | (with_reducible refine Below.setCell ?_ ?_ _) | (with_reducible refine below_go ?_ (by assumption) (Nat.le_refl _)) | (simp; done) | (simp; omega) | omega))⟩

end Go.Proofs.Ytddakmlnkffgiaa
