/- Layer 20, the reference: a pin by its name, told. -/
import Derived.Test.YtpgkebfdfhdliaaDoorLayD
import Derived.Test.YtpgkebfdfhdliaaDoorWild
import Derived.RegionTactic
namespace Go.Proofs.YtpgkebfdfhdliaaDoor
open Go.RowKit
set_option linter.unusedVariables false
set_option linter.unusedSimpArgs false
attribute [local go_sem] ite_max ite_min vite_max vite_min ext_cell ext_frozen extS_cell extS_frozen

def pinNm (kind : Int) (k : Nat) : ByteArray := match (rpinsOf kind)[k * 3]? with | some (.string s) => s | _ => ⟨#[]⟩
def pinTy (kind : Int) (k : Nat) : Int := match (rpinsOf kind)[k * 3 + 1]? with | some (.int _ t) => t | _ => 0
def pinIn (kind : Int) (k : Nat) : Bool := match (rpinsOf kind)[k * 3 + 2]? with | some (.bool b) => b | _ => false
theorem pin_cells {kind : Int} {k : Nat} (h : k < rcount kind) : (rpinsOf kind)[k * 3]? = some (.string (pinNm kind k)) ∧ (rpinsOf kind)[k * 3 + 1]? = some (.int .i64 (pinTy kind k)) ∧ (rpinsOf kind)[k * 3 + 2]? = some (.bool (pinIn kind k)) := by
  obtain ⟨s, t, b, h1, h2, h3⟩ := rpins_at kind k h
  unfold pinNm pinTy pinIn
  rw [h1, h2, h3]
  exact ⟨rfl, rfl, rfl⟩
def pinHit (kind : Int) (nm : ByteArray) (k : Nat) : Bool := !nm.toList.isEmpty && ((pinNm kind k).toList == nm.toList)
/-- the number of the first pin of a name -/
def pinF (kind : Int) (nm : ByteArray) : Option Nat := (List.range (rcount kind)).find? (pinHit kind nm)
def pinFV (kind : Int) : Option Nat → Value
  | some k => .tuple #[.agg #[.string (pinNm kind k), .int .i64 (pinTy kind k), .bool (pinIn kind k)], .bool true]
  | none => .tuple #[.agg #[.string ⟨#[]⟩, .int .i64 0, .bool false], .bool false]
theorem range_find {n i : Nat} {p : Nat → Bool} (hi : i < n) (hp : p i = true) (hn : ∀ j, j < i → p j = false) : (List.range n).find? p = some i := by
  rw [List.find?_eq_some_iff_getElem]
  refine ⟨hp, i, by simpa using hi, by simp, fun j hj => ?_⟩
  simp [hn j hj]
theorem range_find_none {n : Nat} {p : Nat → Bool} (hn : ∀ j, j < n → p j = false) : (List.range n).find? p = none := by
  rw [List.find?_eq_none]
  intro x hx
  simp [hn x (by simpa using hx)]
/-- the pins of a kind, in memory -/
def RowK (w : World) (A : Option Addr) (kind : Int) : Prop := ∀ k, k < rcount kind → ∃ b, A = some ⟨b, 0, none⟩ ∧ b < w.heap.size ∧ w.cell? ⟨b, k * 3, none⟩ = some (.string (pinNm kind k)) ∧ w.cell? ⟨b, k * 3 + 1, none⟩ = some (.int .i64 (pinTy kind k)) ∧ w.cell? ⟨b, k * 3 + 2, none⟩ = some (.bool (pinIn kind k))
theorem RowK.below {w w' : World} {A : Option Addr} {kind : Int} (h : RowK w A kind) (hb : Below w.heap.size w w') : RowK w' A kind := fun k hk => by
  obtain ⟨b, h1, h2, h3, h4, h5⟩ := h k hk
  exact ⟨b, h1, Nat.lt_of_lt_of_le h2 hb.size, (hb.cell (p := ⟨b, _, none⟩) h2).trans h3, (hb.cell (p := ⟨b, _, none⟩) h2).trans h4, (hb.cell (p := ⟨b, _, none⟩) h2).trans h5⟩
theorem rowK_of {w : World} {H : Nat} {kind : Int} {v : Value} (ho : w.ownsRow H 39 3 v (rcount kind) (rpinsOf kind)) : ∃ A c, v = .slice A (rcount kind) c ∧ rcount kind ≤ c ∧ c ≤ 9223372036854775807 ∧ RowK w A kind := by
  have ho' := ho
  obtain ⟨h1, h2⟩ := ho
  rcases h2 with ⟨rfl, hn⟩ | ⟨g, cap, cur, rfl, hg, hh, hn, hc, hr⟩
  · exact ⟨none, 0, by rw [hn], by omega, by omega, fun k hk => by omega⟩
  · refine ⟨some ⟨g, 0, none⟩, cap, rfl, hn, by unfold maxLen at hc; exact hc, fun k hk => ?_⟩
    obtain ⟨e0, e1, e2⟩ := pin_cells hk
    have hx : ∀ j u, (rpinsOf kind)[j]? = some u → w.cell? ⟨g, j, none⟩ = some u := fun j u hu => by
      have := ho'.cells rfl j u hu
      have hadd : (⟨g, 0, none⟩ : Addr).add j = ⟨g, j, none⟩ := by cases j <;> simp [Addr.add]
      rwa [hadd] at this
    exact ⟨g, rfl, (Array.getElem?_eq_some_iff.1 hh).1, hx _ _ e0, hx _ _ e1, hx _ _ e2⟩
theorem rpins_rowK (kind : Int) (w : World) : Calls Tryd.prog 35 #[.int .i64 kind] w fun e w' => (∃ A c, e = .returned (.slice A (rcount kind) c) ∧ rcount kind ≤ c ∧ c ≤ 9223372036854775807 ∧ RowK w' A kind) ∧ Below w.heap.size w w' :=
  (rpins_any kind w).mono fun e w' ⟨v, he, ho, hb⟩ => by
    obtain ⟨A, c, rfl, h1, h2, h3⟩ := rowK_of ho
    exact ⟨⟨A, c, he, h1, h2, h3⟩, hb⟩

set_option maxRecDepth 100000 in
set_option maxHeartbeats 4000000 in
theorem pin20_is (kind : Int) (nm : ByteArray) (w : World) : Calls Tryd.prog 88 #[.int .i64 kind, .string nm] w fun e w' => e = .returned (pinFV kind (pinF kind nm)) ∧ Below w.heap.size w w' := by
  obtain ⟨n, hn⟩ : ∃ n, rcount kind = n := ⟨_, rfl⟩
  obtain ⟨res, hres⟩ : ∃ r, pinFV kind (pinF kind nm) = r := ⟨_, rfl⟩
  have HN := Lib.hid hn
  have HRES := Lib.hid hres
  rw [hres]
  go_enter Tryd.func88, Tryd.ntmps88
  go_wp2_with fail
  refine (rpins_rowK kind _).mono ?_
  rintro e w1 ⟨⟨A, c, rfl, hnc, hc, hrow⟩, hb1⟩
  have HR := Lib.hid hrow
  rw [hn] at hnc ⊢
  clear hn hres
  obtain ⟨hb1c, hb1f⟩ := bcell hb1
  have hb1z := hb1.size
  have hb1c0 := fun o => hb1c (w.heap.size) o (by first | (simp; done) | (simp; omega) | (simp at *; omega) | omega)
  have hb1f0 := fun o => hb1f (w.heap.size) o (by first | (simp; done) | (simp; omega) | (simp at *; omega) | omega)
  have hb1l0 := below_lt (b := w.heap.size) hb1 (by first | (simp; done) | (simp; omega) | (simp at *; omega) | omega)
  have hbw : Below w.heap.size w w1 := by (repeat' (first | (with_reducible exact Below.refl _ _) | (with_reducible assumption) | (with_reducible refine below_drewN ?_ _) | (with_reducible refine Below.drew ?_) | (with_reducible refine below_new ?_ (Nat.le_refl _) _) | (with_reducible refine Below.setCell ?_ ?_ _) | (with_reducible refine below_go ?_ (by assumption) (Nat.le_refl _)) | (simp; done) | (simp; omega) | omega))
  have HB1 := Lib.hid hbw
  have HC : Hid (∀ W, Below w1.heap.size w1 W → W.cell? ⟨w.heap.size, 0, none⟩ = some (.string ⟨#[]⟩) ∧ W.cell? ⟨w.heap.size, 1, none⟩ = some (.int .i64 0) ∧ W.cell? ⟨w.heap.size, 2, none⟩ = some (.bool false) ∧ W.frozen? ⟨w.heap.size, 0, none⟩ = false ∧ W.frozen? ⟨w.heap.size, 1, none⟩ = false ∧ W.frozen? ⟨w.heap.size, 2, none⟩ = false ∧ w.heap.size < W.heap.size) := Lib.hid (fun W hW => by
    have hl : w.heap.size < w1.heap.size := hb1l0
    refine ⟨(hW.cell (p := ⟨w.heap.size, 0, none⟩) hl).trans (by rw [hb1c0]; go_simp), (hW.cell (p := ⟨w.heap.size, 1, none⟩) hl).trans (by rw [hb1c0]; go_simp), (hW.cell (p := ⟨w.heap.size, 2, none⟩) hl).trans (by rw [hb1c0]; go_simp), (hW.frozen (p := ⟨w.heap.size, 0, none⟩) hl).trans (by rw [hb1f0]; go_simp), (hW.frozen (p := ⟨w.heap.size, 1, none⟩) hl).trans (by rw [hb1f0]; go_simp), (hW.frozen (p := ⟨w.heap.size, 2, none⟩) hl).trans (by rw [hb1f0]; go_simp), Nat.lt_of_lt_of_le hl hW.size⟩)
  clear hrow hb1c hb1f hb1z hb1c0 hb1f0 hb1l0 hb1 hbw
  go_wp2_with fail
  go_loopw [7] (fun vi wr => ∃ (i : Nat), i ≤ n ∧ vi = .int .i64 i ∧ Hid (∀ j, j < i → pinHit kind nm j = false) ∧ Below w1.heap.size w1 wr) (fun vi _ => n - (intOf vi).toNat)
  case atStart => exact ⟨0, by omega, rfl, Lib.hid (fun j hj => by omega), Below.refl _ _⟩
  case round =>
    obtain ⟨i, hi, rfl, HNO, hbr⟩ := hrel
    obtain ⟨z0, z1, z2, f0, f1, f2, hlz⟩ := HC.out wr hbr
    have HBE := Lib.hid (HB1.out.trans (hbr.mono HB1.out.size))
    by_cases hlt : i < n
    · have hi0 : (0 : Int) ≤ (i : Int) ∧ (i : Int) < (n : Int) := by omega
      obtain ⟨b, rfl, hbl, c0, c1, c2⟩ := HR.out.below hbr i (by rw [HN.out]; exact hlt)
      have HB := Lib.hid hbr
      obtain ⟨s, hs⟩ : ∃ s, pinNm kind i = s := ⟨_, rfl⟩
      obtain ⟨t, ht⟩ : ∃ s, pinTy kind i = s := ⟨_, rfl⟩
      obtain ⟨ii, hii⟩ : ∃ s, pinIn kind i = s := ⟨_, rfl⟩
      rw [hs] at c0
      rw [ht] at c1
      rw [hii] at c2
      have HS := Lib.hid hs
      have HT := Lib.hid ht
      have HI := Lib.hid hii
      clear hbr hs ht hii
      have hstep : pinHit kind nm i = false → ∀ j, j < i + 1 → pinHit kind nm j = false := fun h0 j hj => by
        rcases Nat.lt_succ_iff_lt_or_eq.1 hj with h | rfl
        · exact HNO.out j h
        · exact h0
      have HST := Lib.hid hstep
      clear hstep
      cases hq0 : (!nm.toList.isEmpty)
      · have HQ := Lib.hid (HST.out (by unfold pinHit; rw [hq0]; rfl))
        go_wp2
        go_roundw
        case rel => exact ⟨i + 1, by omega, by go_num, HQ, HB.out⟩
        case measure => simp [intOf]; omega
      · cases hq : (s.toList == nm.toList)
        · have HQ := Lib.hid (HST.out (by unfold pinHit; rw [HS.out, hq0, hq]; rfl))
          go_wp2
          go_roundw
          case rel => exact ⟨i + 1, by omega, by go_num, HQ, HB.out⟩
          case measure => simp [intOf]; omega
        · have hr2 : .tuple #[.agg #[.string s, .int .i64 t, .bool ii], .bool true] = res := by
            rw [← HRES.out, show pinF kind nm = some i from range_find (by rw [HN.out]; exact hlt) (by unfold pinHit; rw [HS.out, hq0, hq]; rfl) HNO.out]
            show _ = Value.tuple #[.agg #[.string (pinNm kind i), .int .i64 (pinTy kind i), .bool (pinIn kind i)], .bool true]
            rw [HS.out, HT.out, HI.out]
          have HR2 := Lib.hid hr2
          clear hr2
          go_wp2
          refine bodyPost_ret (v := .tuple #[.agg #[.string s, .int .i64 t, .bool ii], .bool true]) (by simp [results, Tryd.results88, go_sem, z0, z1, z2, f0, f1, f2, hlz]) rfl ⟨by rw [HR2.out], ?_⟩
          have := HBE.out
          (repeat' (first | (with_reducible exact Below.refl _ _) | (with_reducible assumption) | (with_reducible refine below_drewN ?_ _) | (with_reducible refine Below.drew ?_) | (with_reducible refine below_new ?_ (Nat.le_refl _) _) | (with_reducible refine Below.setCell ?_ ?_ _) | (with_reducible refine below_go ?_ (by assumption) (Nat.le_refl _)) | (simp; done) | (simp; omega) | omega))
    · obtain rfl : i = n := by omega
      have hr2 : .tuple #[.agg #[.string ⟨#[]⟩, .int .i64 0, .bool false], .bool false] = res := by
        rw [← HRES.out, show pinF kind nm = none from range_find_none (by rw [HN.out]; exact HNO.out)]
        rfl
      have HR2 := Lib.hid hr2
      clear hr2
      go_wp2
      refine bodyPost_ret (v := .tuple #[.agg #[.string ⟨#[]⟩, .int .i64 0, .bool false], .bool false]) (by simp [results, Tryd.results88, go_sem, z0, z1, z2, f0, f1, f2, hlz]) rfl ⟨by rw [HR2.out], ?_⟩
      have := HBE.out
      (repeat' (first | (with_reducible exact Below.refl _ _) | (with_reducible assumption) | (with_reducible refine below_drewN ?_ _) | (with_reducible refine Below.drew ?_) | (with_reducible refine below_new ?_ (Nat.le_refl _) _) | (with_reducible refine Below.setCell ?_ ?_ _) | (with_reducible refine below_go ?_ (by assumption) (Nat.le_refl _)) | (simp; done) | (simp; omega) | omega))

end Go.Proofs.YtpgkebfdfhdliaaDoor
