/- Layer 16: timers: what a call of a TON, of a TP lays. -/
import Derived.Test.YtedmhafpaielmaaDoorStdD
import Derived.Test.YtedmhafpaielmaaDoorExtTail
namespace Go.Proofs.YtedmhafpaielmaaDoor
open Go.RowKit
set_option linter.unusedVariables false
set_option linter.unusedSimpArgs false
attribute [local go_sem] ite_max ite_min vite_max vite_min ext_cell ext_frozen extS_cell extS_frozen

/-- a block that holds these numbers, and can be written -/
structure Row (w : World) (g : Nat) (zs : List Int) : Prop where
  lt : g < w.heap.size
  cell : ∀ (j : Nat) z, zs[j]? = some z → w.cell? ⟨g, j, none⟩ = some (.int .i64 z)
  free : ∀ o, w.frozen? ⟨g, o, none⟩ = false
theorem Row.below {w w' : World} {g : Nat} {zs : List Int} (h : Row w g zs) (hb : Below w.heap.size w w') : Row w' g zs :=
  ⟨Nat.lt_of_lt_of_le h.lt hb.size, fun j z hz => (hb.cell (p := ⟨g, j, none⟩) h.lt).trans (h.cell j z hz), fun o => (hb.frozen (p := ⟨g, o, none⟩) h.lt).trans (h.free o)⟩
theorem row_nil (w : World) (g j : Nat) : ∀ (k : Nat) z, ([] : List Int)[k]? = some z → w.cell? ⟨g, j + k, none⟩ = some (.int .i64 z) := fun k z h => by simp at h
theorem row_cons {w : World} {g j : Nat} {z : Int} {zs : List Int} (h0 : w.cell? ⟨g, j, none⟩ = some (.int .i64 z)) (h : ∀ (k : Nat) y, zs[k]? = some y → w.cell? ⟨g, j + 1 + k, none⟩ = some (.int .i64 y)) :
    ∀ (k : Nat) y, (z :: zs)[k]? = some y → w.cell? ⟨g, j + k, none⟩ = some (.int .i64 y) := by
  intro k y hy
  cases k with
  | zero =>
    simp at hy
    subst hy
    exact h0
  | succ k =>
    have := h k y (by simpa using hy)
    rwa [show j + 1 + k = j + (k + 1) by omega] at this
theorem Row.mk0 {w : World} {g : Nat} {zs : List Int} (hl : g < w.heap.size) (hf : ∀ o, w.frozen? ⟨g, o, none⟩ = false) (h : ∀ (k : Nat) y, zs[k]? = some y → w.cell? ⟨g, 0 + k, none⟩ = some (.int .i64 y)) : Row w g zs :=
  ⟨hl, fun j z hz => by have := h j z hz; rwa [Nat.zero_add] at this, hf⟩
/-- all but one block is as it was -/
structure But (g : Nat) (w w' : World) : Prop where
  size : w.heap.size ≤ w'.heap.size
  cell : ∀ b o, b < w.heap.size → b ≠ g → w'.cell? ⟨b, o, none⟩ = w.cell? ⟨b, o, none⟩
  froz : ∀ b o, b < w.heap.size → b ≠ g → w'.frozen? ⟨b, o, none⟩ = w.frozen? ⟨b, o, none⟩
  below : ∀ B, B ≤ g → B ≤ w.heap.size → Below B w w'
theorem But.of_below {g : Nat} {w w' : World} (h : Below w.heap.size w w') : But g w w' :=
  ⟨h.size, fun b o hb _ => h.cell (p := ⟨b, o, none⟩) hb, fun b o hb _ => h.frozen (p := ⟨b, o, none⟩) hb, fun _ _ h2 => h.mono h2⟩
theorem But.trans {g : Nat} {a b c : World} (h1 : But g a b) (h2 : But g b c) : But g a c :=
  ⟨Nat.le_trans h1.size h2.size, fun x o hx hn => (h2.cell x o (Nat.lt_of_lt_of_le hx h1.size) hn).trans (h1.cell x o hx hn), fun x o hx hn => (h2.froz x o (Nat.lt_of_lt_of_le hx h1.size) hn).trans (h1.froz x o hx hn),
    fun B hB hs => (h1.below B hB hs).trans (h2.below B hB (Nat.le_trans hs h1.size))⟩
theorem But.set {g : Nat} {w w' : World} (h : But g w w') (o : Nat) (v : Value) : But g w (w'.setCell ⟨g, o, none⟩ v) := by
  refine ⟨by simpa [World.setCell] using h.size, fun b q hb hn => ?_, fun b q hb hn => ?_, fun B hB hs => ?_⟩
  · rw [World.cell?_setCell_other _ _ _ _ (fun he => by injection he with h1 h2; exact hn h1.symm)]
    exact h.cell b q hb hn
  · rw [show (w'.setCell ⟨g, o, none⟩ v).frozen? ⟨b, q, none⟩ = w'.frozen? ⟨b, q, none⟩ by go_simp]
    exact h.froz b q hb hn
  · exact Below.setCell (h.below B hB hs) (by show B ≤ g; exact hB) _

theorem But.refl (g : Nat) (w : World) : But g w w := But.of_below (Below.refl _ _)
theorem But.alloc {g : Nat} {w w' : World} (h : But g w w') (o : Obj) : But g w (w'.alloc o) := h.trans (But.of_below ((Below.refl _ _).alloc (Nat.le_refl _) o))
theorem But.drew {g : Nat} {w w' : World} (h : But g w w') : But g w w'.drew := h.trans (But.of_below ((Below.refl _ _).drew))
theorem But.drewN {g : Nat} {w w' : World} (h : But g w w') (n : Nat) : But g w (w'.drewN n) := h.trans (But.of_below (below_drewN (Below.refl _ _) n))

set_option maxHeartbeats 1000000 in
theorem truth_any (b : Bool) (w : World) : Calls Tryd.prog 18 #[.bool b] w fun e w' => e = .returned (.int .i64 (bif b then 1 else 0)) ∧ w = w' := by
  cases b
  all_goals
    go_enter Tryd.func18, Tryd.ntmps18
    go_wp2
    go_ret
    exact ⟨rfl, rfl⟩

def upI (e p : Int) : Int := if e < p then e + 1 else e
set_option maxHeartbeats 2000000 in
theorem up_any (bx g n k : Nat) (p e : Int) (w : World) (hb : bx < w.heap.size) (hne : bx ≠ g) (hg : g < w.heap.size) (hn : 4 ≤ n) (hx : w.cell? ⟨bx, 0, none⟩ = some (.slice (some ⟨g, 0, none⟩) n k))
    (hp : w.cell? ⟨g, 1, none⟩ = some (.int .i64 p)) (he : w.cell? ⟨g, 3, none⟩ = some (.int .i64 e)) (hf : ∀ o, w.frozen? ⟨g, o, none⟩ = false) (hpb : p ≤ 9223372036854775807) (heb : -9223372036854775808 ≤ e) :
    Calls Tryd.prog 25 #[.pointer (some ⟨bx, 0, none⟩)] w fun x w' => (∃ v, x = .returned v) ∧ But g w w' ∧ (∀ o, w'.frozen? ⟨g, o, none⟩ = false) ∧ w'.cell? ⟨g, 3, none⟩ = some (.int .i64 (upI e p)) ∧ (∀ o, o ≠ 3 → w'.cell? ⟨g, o, none⟩ = w.cell? ⟨g, o, none⟩) := by
  have h1 : (1 : Int) < (n : Int) := by omega
  have h3 : (3 : Int) < (n : Int) := by omega
  by_cases hlt : e < p
  · have hu : upI e p = e + 1 := if_pos hlt
    have hw : IntKind.i64.wrap (e + 1) = e + 1 := IntWalk.i64_in _ (by omega)
    rw [hu]
    go_enter Tryd.func25, Tryd.ntmps25
    go_wp2_with fail
    refine wp_region_ext (by kernel_rfl) (by kernel_rfl) ?_
    repeat (go_big_quiet_step (fail))
    refine wpQuiet_nil ?_
    intro w1 hb1
    replace hb1 := ext_below hb1
    obtain ⟨hc, hfr⟩ := bcell hb1
    have hz := hb1.size
    have cx := (hc bx 0 hb).trans hx
    have ce := (hc g 3 hg).trans he
    have cf := fun o => (hfr g o hg).trans (hf o)
    have HC := Lib.hid hc
    have hg1 : g < w1.heap.size := by omega
    clear hc hfr hx hp he hf
    go_wp2
    refine bodyPost_end (v := .tuple #[]) ?_ rfl ⟨⟨_, rfl⟩, (But.of_below hb1).set _ _, fun o => by go_simp, by go_simp, fun o ho => ?_⟩
    · simp [results, Tryd.results25, go_sem]
    · rw [World.cell?_setCell_other _ _ _ _ (fun he => by injection he with h1 h2; exact ho h2.symm)]
      exact HC.out g o hg
  · have hu : upI e p = e := if_neg hlt
    rw [hu]
    go_enter Tryd.func25, Tryd.ntmps25
    go_wp2_with fail
    refine wp_region_ext (by kernel_rfl) (by kernel_rfl) ?_
    repeat (go_big_quiet_step (fail))
    refine wpQuiet_nil ?_
    intro w1 hb1
    replace hb1 := ext_below hb1
    obtain ⟨hc, hfr⟩ := bcell hb1
    go_wp2
    refine bodyPost_end (v := .tuple #[]) ?_ rfl ⟨⟨_, rfl⟩, But.of_below hb1, fun o => (hfr g o hg).trans (hf o), (hc g 3 hg).trans he, fun o ho => hc g o hg⟩
    simp [results, Tryd.results25, go_sem]

theorem row4 {w : World} {g : Nat} {a b c d : Int} (hl : g < w.heap.size) (hf : ∀ o, w.frozen? ⟨g, o, none⟩ = false) (h0 : w.cell? ⟨g, 0, none⟩ = some (.int .i64 a)) (h1 : w.cell? ⟨g, 1, none⟩ = some (.int .i64 b)) (h2 : w.cell? ⟨g, 2, none⟩ = some (.int .i64 c)) (h3 : w.cell? ⟨g, 3, none⟩ = some (.int .i64 d)) : Row w g [a, b, c, d] :=
  Row.mk0 hl hf (row_cons h0 (row_cons h1 (row_cons h2 (row_cons h3 (row_nil w g 4)))))

def tonQ (e p : Int) : Int := bif decide (p ≤ upI e p) then 1 else 0
set_option maxRecDepth 100000 in
set_option maxHeartbeats 2000000 in
theorem ton_off (p q e : Int) (g n k : Nat) (w : World) (hn : 4 ≤ n) (h : Row w g [0, p, q, e]) :
    Calls Tryd.prog 16 #[.int .i64 10, .slice (some ⟨g, 0, none⟩) n k] w fun x w' => (∃ v, x = .returned v) ∧ But g w w' ∧ Row w' g [0, p, 0, 0] := by
  have hg := h.lt
  have c0 := h.cell 0 _ rfl
  have c1 := h.cell 1 _ rfl
  have c2 := h.cell 2 _ rfl
  have c3 := h.cell 3 _ rfl
  have cf := h.free
  have hne : ¬ g = w.heap.size := by omega
  have i0 : (0 : Int) < (n : Int) := by omega
  have i2 : (2 : Int) < (n : Int) := by omega
  have i3 : (3 : Int) < (n : Int) := by omega
  clear h
  go_enter Tryd.func16, Tryd.ntmps16
  go_wp2_with fail
  go_region
  go_wp2
  refine bodyPost_ret (results_none rfl _ _ _) rfl ?_
  refine ⟨⟨_, rfl⟩, ?_, ?_⟩
  · (repeat' (first | (with_reducible exact But.refl _ _) | (with_reducible assumption) | (with_reducible refine But.drew ?_) | (with_reducible refine But.drewN ?_ _) | (with_reducible refine But.alloc ?_ _) | (with_reducible refine But.set ?_ _ _)))
  · refine row4 (by simp [World.setCell]; omega) (fun o => by go_simp) (by go_simp) (by go_simp) (by go_simp) (by go_simp)

set_option maxRecDepth 100000 in
set_option maxHeartbeats 2000000 in
theorem ton_on (a p q e : Int) (g n k : Nat) (w : World) (ha : ¬ a = 0) (hn : 4 ≤ n) (h : Row w g [a, p, q, e]) (hpb : p ≤ 9223372036854775807) (heb : -9223372036854775808 ≤ e) :
    Calls Tryd.prog 16 #[.int .i64 10, .slice (some ⟨g, 0, none⟩) n k] w fun x w' => (∃ v, x = .returned v) ∧ But g w w' ∧ Row w' g [a, p, tonQ e p, upI e p] := by
  have hg := h.lt
  have c0 := h.cell 0 _ rfl
  have c1 := h.cell 1 _ rfl
  have c2 := h.cell 2 _ rfl
  have c3 := h.cell 3 _ rfl
  have cf := h.free
  have hne : ¬ g = w.heap.size := by omega
  have i0 : (0 : Int) < (n : Int) := by omega
  have i1 : (1 : Int) < (n : Int) := by omega
  have i2 : (2 : Int) < (n : Int) := by omega
  have i3 : (3 : Int) < (n : Int) := by omega
  obtain ⟨u, hu⟩ : ∃ u, upI e p = u := ⟨_, rfl⟩
  have hq : tonQ e p = bif decide (p ≤ u) then 1 else 0 := by rw [← hu]; rfl
  rw [hu, hq]
  have HU := Lib.hid hu
  clear h hu hq
  go_enter Tryd.func16, Tryd.ntmps16
  go_wp2_with fail
  refine (up_any w.heap.size g n k p e _ (by simp) (by omega) (by first | (simp; done) | (simp; omega)) hn (by go_simp) (by go_simp) (by go_simp) (fun o => by go_simp) hpb heb).mono ?_
  rintro x w1 ⟨⟨v, rfl⟩, hbut, hf1, hc3, hc⟩
  have hz1 := hbut.size
  have hcx := hbut.cell w.heap.size 0 (by simp) (by omega)
  have b0 : w1.cell? ⟨w.heap.size, 0, none⟩ = some (.slice (some ⟨g, 0, none⟩) n k) := by rw [hcx]; go_simp
  have b1 : w1.cell? ⟨g, 1, none⟩ = some (.int .i64 p) := by rw [hc 1 (by omega)]; go_simp
  have b2 : w1.cell? ⟨g, 0, none⟩ = some (.int .i64 a) := by rw [hc 0 (by omega)]; go_simp
  have b3 : w1.cell? ⟨g, 2, none⟩ = some (.int .i64 q) := by rw [hc 2 (by omega)]; go_simp
  rw [HU.out] at hc3
  have hg1 : g < w1.heap.size := by simp at hz1; omega
  have hl1 : w.heap.size < w1.heap.size := by simp at hz1; omega
  have HBUT : Hid (But g w w1) := Lib.hid (((But.refl _ _).alloc _).trans hbut)
  clear hcx hc hbut hz1 c0 c1 c2 c3
  go_wp2_with fail
  refine wp_region_ext_tail 10 (by kernel_rfl) (by kernel_rfl) ?_
  simp only [List.take_succ_cons, List.take_zero, List.drop_succ_cons, List.drop_zero]
  repeat (go_big_quiet_step ((go_at_call 18; exact ext_same (truth_any _ _))))
  refine wpQuiet_nil ?_
  intro w2 hb2
  replace hb2 := ext_below hb2
  obtain ⟨hcc, hff⟩ := bcell hb2
  have hz2 := hb2.size
  have e0 := (hcc g 0 hg1).trans b2
  have e1 := (hcc g 1 hg1).trans b1
  have e2 := (hcc g 2 hg1).trans b3
  have e3 := (hcc g 3 hg1).trans hc3
  have ef := fun o => (hff g o hg1).trans (hf1 o)
  have hg2 : g < w2.heap.size := by omega
  have HB2 : Hid (But g w w2) := Lib.hid (HBUT.out.trans (But.of_below hb2))
  clear hcc hff b1 b2 b3 hc3 hf1
  go_wp2
  refine bodyPost_end (results_none rfl _ _ _) rfl ⟨⟨_, rfl⟩, ?_, ?_⟩
  · exact HB2.out.set _ _
  · exact row4 (by simpa [World.setCell] using hg2) (fun o => by go_simp) (by go_simp) (by go_simp) (by go_simp) (by go_simp)

theorem row6 {w : World} {g : Nat} {a b c d x y : Int} (hl : g < w.heap.size) (hf : ∀ o, w.frozen? ⟨g, o, none⟩ = false) (h0 : w.cell? ⟨g, 0, none⟩ = some (.int .i64 a)) (h1 : w.cell? ⟨g, 1, none⟩ = some (.int .i64 b)) (h2 : w.cell? ⟨g, 2, none⟩ = some (.int .i64 c)) (h3 : w.cell? ⟨g, 3, none⟩ = some (.int .i64 d)) (h4 : w.cell? ⟨g, 4, none⟩ = some (.int .i64 x)) (h5 : w.cell? ⟨g, 5, none⟩ = some (.int .i64 y)) : Row w g [a, b, c, d, x, y] :=
  Row.mk0 hl hf (row_cons h0 (row_cons h1 (row_cons h2 (row_cons h3 (row_cons h4 (row_cons h5 (row_nil w g 6)))))))

end Go.Proofs.YtedmhafpaielmaaDoor
