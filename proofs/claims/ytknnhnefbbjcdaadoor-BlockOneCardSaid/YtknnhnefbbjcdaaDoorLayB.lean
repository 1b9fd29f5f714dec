/- Layer 20, the reference: a type is told of any expression that fits. PRINTED by wip/tool/mktype.py -/
import Derived.Test.YtknnhnefbbjcdaaDoorM41
import Derived.Test.YtknnhnefbbjcdaaDoorTreeI
import Derived.RegionTactic
namespace Go.Proofs.YtknnhnefbbjcdaaDoor
open Go.RowKit
set_option linter.unusedVariables false
set_option linter.unusedSimpArgs false
attribute [local go_sem] ite_max ite_min vite_max vite_min ext_cell ext_frozen extS_cell extS_frozen

def varZero : VarS := ⟨⟨#[]⟩, 0, 0, false, 0, 0, 0, 0⟩
theorem findR_form (o : Option VarS) : ∃ (v : VarS) (ok : Bool), findR o = .tuple #[.agg v.cells.toArray, .bool ok] := by
 cases o with
 | none => exact ⟨varZero, false, rfl⟩
 | some v => exact ⟨v, true, rfl⟩
theorem find20_form (vs : List VarS) (nm : ByteArray) (w : World) (A : Option Addr) (cap : Nat) (h : RowV w A vs cap) : Calls Tryd.prog 32 #[.slice A vs.length cap, .string nm] w fun e w' => (∃ (v : VarS) (ok : Bool), e = .returned (.tuple #[.agg v.cells.toArray, .bool ok])) ∧ Below w.heap.size w w' :=
 (find20_any vs nm w A cap h).mono fun e w' ⟨he, hb⟩ => by
  obtain ⟨v, ok, hf⟩ := findR_form (findV vs nm)
  exact ⟨⟨v, ok, by rw [he, hf]⟩, hb⟩
def RowP (w : World) (A : Option Addr) (n : Nat) : Prop := ∀ k, k < n → ∃ b s t i, A = some ⟨b, 0, none⟩ ∧ b < w.heap.size ∧ w.cell? ⟨b, k * 3, none⟩ = some (.string s) ∧ w.cell? ⟨b, k * 3 + 1, none⟩ = some (.int .i64 t) ∧ w.cell? ⟨b, k * 3 + 2, none⟩ = some (.bool i)
theorem RowP.below {w w' : World} {A : Option Addr} {n : Nat} (h : RowP w A n) (hb : Below w.heap.size w w') : RowP w' A n := fun k hk => by
 obtain ⟨b, s, t, i, h1, h2, h3, h4, h5⟩ := h k hk
 exact ⟨b, s, t, i, h1, Nat.lt_of_lt_of_le h2 hb.size, (hb.cell (p := ⟨b, _, none⟩) h2).trans h3, (hb.cell (p := ⟨b, _, none⟩) h2).trans h4, (hb.cell (p := ⟨b, _, none⟩) h2).trans h5⟩
theorem rpins_row (kind : Int) (w : World) : Calls Tryd.prog 53 #[.int .i64 kind] w fun e w' => (∃ A n c, e = .returned (.slice A n c) ∧ n ≤ c ∧ c ≤ 9223372036854775807 ∧ n = rcount kind ∧ RowP w' A n) ∧ Below w.heap.size w w' :=
 (rpins_any kind w).mono fun e w' ⟨v, he, ho, hb⟩ => by
  have ho' := ho
  obtain ⟨h1, h2⟩ := ho
  rcases h2 with ⟨rfl, hn⟩ | ⟨g, cap, cur, rfl, hg, hh, hn, hc, hr⟩
  ·refine ⟨⟨none, 0, 0, he, by omega, by omega, hn.symm, fun k hk => by omega⟩, hb⟩
  ·refine ⟨⟨some ⟨g, 0, none⟩, _, cap, he, hn, by unfold maxLen at hc; exact hc, rfl, fun k hk => ?_⟩, hb⟩
   obtain ⟨s, t, i, e0, e1, e2⟩ := rpins_at kind k hk
   have hx : ∀ j u, (rpinsOf kind)[j]? = some u → w'.cell? ⟨g, j, none⟩ = some u := fun j u hu => by
    have := ho'.cells rfl j u hu
    have hadd : (⟨g, 0, none⟩ : Addr).add j = ⟨g, j, none⟩ := by cases j <;> simp [Addr.add]
    rwa [hadd] at this
   exact ⟨g, s, t, i, rfl, (Array.getElem?_eq_some_iff.1 hh).1, hx _ _ e0, hx _ _ e1, hx _ _ e2⟩

set_option maxRecDepth 100000 in
set_option maxHeartbeats 4000000 in
theorem pin20_any (kind : Int) (nm : ByteArray) (w : World) : Calls Tryd.prog 67 #[.int .i64 kind, .string nm] w fun e w' => PinR e ∧ Below w.heap.size w w' := by
 go_enter Tryd.func67, Tryd.ntmps67
 go_wp2_with fail
 refine (rpins_row kind _).mono ?_
 rintro e w1 ⟨⟨A, n, c, rfl, hnc, hc, -, hrow⟩, hb1⟩
 have HR := Lib.hid hrow
 obtain ⟨hb1c, hb1f⟩ := bcell hb1
 have hb1z := hb1.size
 have hb1c0 := fun o => hb1c (w.heap.size) o (by first | (simp; done) | (simp; omega) | (simp at *; omega) | omega)
 have hb1f0 := fun o => hb1f (w.heap.size) o (by first | (simp; done) | (simp; omega) | (simp at *; omega) | omega)
 have hb1l0 := below_lt (b := w.heap.size) hb1 (by first | (simp; done) | (simp; omega) | (simp at *; omega) | omega)
 have hbw : Below w.heap.size w w1 := by exact belowBy
 have HB1 := Lib.hid hbw
 have HC : Hid (∀ W, Below w1.heap.size w1 W → W.cell? ⟨w.heap.size, 0, none⟩ = some (.string ⟨#[]⟩) ∧ W.cell? ⟨w.heap.size, 1, none⟩ = some (.int .i64 0) ∧ W.cell? ⟨w.heap.size, 2, none⟩ = some (.bool false) ∧ W.frozen? ⟨w.heap.size, 0, none⟩ = false ∧ W.frozen? ⟨w.heap.size, 1, none⟩ = false ∧ W.frozen? ⟨w.heap.size, 2, none⟩ = false ∧ w.heap.size < W.heap.size) := Lib.hid (fun W hW => by
  have hl : w.heap.size < w1.heap.size := hb1l0
  refine ⟨(hW.cell (p := ⟨w.heap.size, 0, none⟩) hl).trans (by rw [hb1c0]; go_simp), (hW.cell (p := ⟨w.heap.size, 1, none⟩) hl).trans (by rw [hb1c0]; go_simp), (hW.cell (p := ⟨w.heap.size, 2, none⟩) hl).trans (by rw [hb1c0]; go_simp), (hW.frozen (p := ⟨w.heap.size, 0, none⟩) hl).trans (by rw [hb1f0]; go_simp), (hW.frozen (p := ⟨w.heap.size, 1, none⟩) hl).trans (by rw [hb1f0]; go_simp), (hW.frozen (p := ⟨w.heap.size, 2, none⟩) hl).trans (by rw [hb1f0]; go_simp), Nat.lt_of_lt_of_le hl hW.size⟩)
 clear hrow hb1c hb1f hb1z hb1c0 hb1f0 hb1l0 hb1 hbw
 go_wp2_with fail
 go_loopw [7] (fun vi wr => ∃ (i : Nat), i ≤ n ∧ vi = .int .i64 i ∧ Below w1.heap.size w1 wr) (fun vi _ => n - (intOf vi).toNat)
 case atStart => exact ⟨0, by omega, rfl, Below.refl _ _⟩
 case round =>
  obtain ⟨i, hi, rfl, hbr⟩ := hrel
  obtain ⟨z0, z1, z2, f0, f1, f2, hlz⟩ := HC.out wr hbr
  have HBE := Lib.hid (HB1.out.trans (hbr.mono HB1.out.size))
  by_cases hlt : i < n
  ·have hi0 : (0 : Int) ≤ (i : Int) ∧ (i : Int) < (n : Int) := by omega
   obtain ⟨b, s, t, ii, rfl, hbl, c0, c1, c2⟩ := HR.out.below hbr i hlt
   have HB := Lib.hid hbr
   clear hbr
   cases hq0 : (!nm.toList.isEmpty)
   ·go_wp2
    go_roundw
    case rel => exact ⟨i + 1, by omega, by go_num, HB.out⟩
    case measure => simp [intOf]; omega
   ·cases hq : (s.toList == nm.toList)
    ·go_wp2
     go_roundw
     case rel => exact ⟨i + 1, by omega, by go_num, HB.out⟩
     case measure => simp [intOf]; omega
    ·go_wp2
     refine bodyPost_ret (v := .tuple #[.agg #[.string s, .int .i64 t, .bool ii], .bool true]) (by simp [results, Tryd.results67, go_sem, z0, z1, z2, f0, f1, f2, hlz]) rfl ⟨⟨_, _, _, _, rfl⟩, ?_⟩
     have := HBE.out
     exact belowBy
  ·obtain rfl : i = n := by omega
   go_wp2
   refine bodyPost_ret (v := .tuple #[.agg #[.string ⟨#[]⟩, .int .i64 0, .bool false], .bool false]) (by simp [results, Tryd.results67, go_sem, z0, z1, z2, f0, f1, f2, hlz]) rfl ⟨⟨_, _, _, _, rfl⟩, ?_⟩
   have := HBE.out
   exact belowBy

def TyR (e : Ending) : Prop := ∃ t a b, e = .returned (.tuple #[.int .i64 t, .agg #[.int .i64 a, .int .i64 b]])
def ErrR (e : Ending) : Prop := ∃ a b, e = .returned (.agg #[.int .i64 a, .int .i64 b])

set_option maxRecDepth 100000 in
set_option maxHeartbeats 4000000 in
theorem index20_of (x : Ex) (A vA : Option Addr) (cap n vcap : Nat) (w : World) (hT : ∀ W, Below w.heap.size w W → Calls Tryd.prog 59 #[.slice vA n vcap, .agg (ExC x A cap).toArray] W fun e w' => TyR e ∧ Below W.heap.size W w') : Calls Tryd.prog 68 #[.slice vA n vcap, .agg (ExC x A cap).toArray] w fun e w' => ErrR e ∧ Below w.heap.size w w' := by
 have HT := Lib.hid hT
 clear hT
 show Calls Tryd.prog 68 #[.slice vA n vcap, .agg #[.int .i64 x.op, .int .i64 x.n, .string x.name, .string x.field, .slice A x.sub.length cap, .int .i64 x.line]] w _
 go_enter Tryd.func68, Tryd.ntmps68
 go_wp2_with fail
 refine (HT.out _ (by exact belowBy)).mono ?_
 rintro e w1 ⟨⟨t, a, b, rfl⟩, hb1⟩
 obtain ⟨hb1c, hb1f⟩ := bcell hb1
 have hb1z := hb1.size
 have hb1c0 := fun o => hb1c (w.heap.size) o (by first | (simp; done) | (simp; omega) | (simp at *; omega) | omega)
 have hb1f0 := fun o => hb1f (w.heap.size) o (by first | (simp; done) | (simp; omega) | (simp at *; omega) | omega)
 have hb1l0 := below_lt (b := w.heap.size) hb1 (by first | (simp; done) | (simp; omega) | (simp at *; omega) | omega)
 have hb1c1 := fun o => hb1c (w.heap.size + 1) o (by first | (simp; done) | (simp; omega) | (simp at *; omega) | omega)
 have hb1f1 := fun o => hb1f (w.heap.size + 1) o (by first | (simp; done) | (simp; omega) | (simp at *; omega) | omega)
 have hb1l1 := below_lt (b := w.heap.size + 1) hb1 (by first | (simp; done) | (simp; omega) | (simp at *; omega) | omega)
 go_upto_region 2 with (fail)
 by_cases ha : a = 0
 ·subst ha
  cases ht : (t != 1)
  ·go_wp2
   refine bodyPost_ret (v := .agg #[.int .i64 0, .int .i64 b]) (by simp [results, Tryd.results68, go_sem, hb1c0, hb1c1, hb1f0, hb1f1, hb1l0, hb1l1]) rfl ⟨⟨_, _, rfl⟩, by exact belowBy⟩
  ·go_wp2
   refine bodyPost_ret (v := .agg #[.int .i64 10, .int .i64 x.line]) (by simp [results, Tryd.results68, go_sem, hb1c0, hb1c1, hb1f0, hb1f1, hb1l0, hb1l1]) rfl ⟨⟨_, _, rfl⟩, by exact belowBy⟩
 ·have hab : (a == 0) = false := by simp [ha]
  go_wp2
  refine bodyPost_ret (v := .agg #[.int .i64 a, .int .i64 b]) (by simp [results, Tryd.results68, go_sem, hb1c0, hb1c1, hb1f0, hb1f1, hb1l0, hb1l1]) rfl ⟨⟨_, _, rfl⟩, by exact belowBy⟩

set_option maxRecDepth 100000 in
set_option maxHeartbeats 4000000 in
theorem wants20_of (x : Ex) (A vA : Option Addr) (cap n vcap : Nat) (tt : Int) (w : World) (hT : ∀ W, Below w.heap.size w W → Calls Tryd.prog 59 #[.slice vA n vcap, .agg (ExC x A cap).toArray] W fun e w' => TyR e ∧ Below W.heap.size W w') : Calls Tryd.prog 60 #[.slice vA n vcap, .agg (ExC x A cap).toArray, .int .i64 tt] w fun e w' => ErrR e ∧ Below w.heap.size w w' := by
 have HT := Lib.hid hT
 clear hT
 show Calls Tryd.prog 60 #[.slice vA n vcap, .agg #[.int .i64 x.op, .int .i64 x.n, .string x.name, .string x.field, .slice A x.sub.length cap, .int .i64 x.line], .int .i64 tt] w _
 go_enter Tryd.func60, Tryd.ntmps60
 go_wp2_with fail
 refine (HT.out _ (by exact belowBy)).mono ?_
 rintro e w1 ⟨⟨t, a, b, rfl⟩, hb1⟩
 obtain ⟨hb1c, hb1f⟩ := bcell hb1
 have hb1z := hb1.size
 have hb1c0 := fun o => hb1c (w.heap.size) o (by first | (simp; done) | (simp; omega) | (simp at *; omega) | omega)
 have hb1f0 := fun o => hb1f (w.heap.size) o (by first | (simp; done) | (simp; omega) | (simp at *; omega) | omega)
 have hb1l0 := below_lt (b := w.heap.size) hb1 (by first | (simp; done) | (simp; omega) | (simp at *; omega) | omega)
 have hb1c1 := fun o => hb1c (w.heap.size + 1) o (by first | (simp; done) | (simp; omega) | (simp at *; omega) | omega)
 have hb1f1 := fun o => hb1f (w.heap.size + 1) o (by first | (simp; done) | (simp; omega) | (simp at *; omega) | omega)
 have hb1l1 := below_lt (b := w.heap.size + 1) hb1 (by first | (simp; done) | (simp; omega) | (simp at *; omega) | omega)
 go_upto_region 2 with (fail)
 by_cases ha : a = 0
 ·subst ha
  cases ht : (t != tt)
  ·go_wp2
   refine bodyPost_ret (v := .agg #[.int .i64 0, .int .i64 b]) (by simp [results, Tryd.results60, go_sem, hb1c0, hb1c1, hb1f0, hb1f1, hb1l0, hb1l1]) rfl ⟨⟨_, _, rfl⟩, by exact belowBy⟩
  ·go_wp2
   refine bodyPost_ret (v := .agg #[.int .i64 10, .int .i64 x.line]) (by simp [results, Tryd.results60, go_sem, hb1c0, hb1c1, hb1f0, hb1f1, hb1l0, hb1l1]) rfl ⟨⟨_, _, rfl⟩, by exact belowBy⟩
 ·have hab : (a == 0) = false := by simp [ha]
  go_wp2
  refine bodyPost_ret (v := .agg #[.int .i64 a, .int .i64 b]) (by simp [results, Tryd.results60, go_sem, hb1c0, hb1c1, hb1f0, hb1f1, hb1l0, hb1l1]) rfl ⟨⟨_, _, rfl⟩, by exact belowBy⟩

theorem FitE.parts {x : Ex} (h : FitE x) : FitX x ∧ ∀ y, y ∈ x.sub → FitE y := by
 cases h with
 | mk _ h1 h2 => exact ⟨h1, h2⟩
structure TyV (W : World) (B : Nat) (x : Ex) (A : Option Addr) (cap : Nat) : Prop where
 lt : B + 2 < W.heap.size
 xc : ∀ j u, (ExC x A cap)[j]? = some u → W.cell? ⟨B, j, none⟩ = some u
 r0 : W.cell? ⟨B + 1, 0, none⟩ = some (.int .i64 0)
 r1 : W.cell? ⟨B + 1, 1, none⟩ = some (.int .i64 0)
 q0 : W.frozen? ⟨B + 1, 0, none⟩ = false
 q1 : W.frozen? ⟨B + 1, 1, none⟩ = false
 b0 : W.cell? ⟨B + 2, 0, none⟩ = some (.int .i64 10)
 b1 : W.cell? ⟨B + 2, 1, none⟩ = some (.int .i64 x.line)
theorem TyV.below {W W' : World} {B : Nat} {x : Ex} {A : Option Addr} {cap : Nat} (h : TyV W B x A cap) (hb : Below W.heap.size W W') : TyV W' B x A cap := by
 have hl := h.lt
 exact ⟨Nat.lt_of_lt_of_le h.lt hb.size, fun j u hu => (hb.cell (p := ⟨B, j, none⟩) (by show B < _; omega)).trans (h.xc j u hu), (hb.cell (p := ⟨B + 1, 0, none⟩) (by show B + 1 < _; omega)).trans h.r0, (hb.cell (p := ⟨B + 1, 1, none⟩) (by show B + 1 < _; omega)).trans h.r1,
  (hb.frozen (p := ⟨B + 1, 0, none⟩) (by show B + 1 < _; omega)).trans h.q0, (hb.frozen (p := ⟨B + 1, 1, none⟩) (by show B + 1 < _; omega)).trans h.q1, (hb.cell (p := ⟨B + 2, 0, none⟩) hl).trans h.b0, (hb.cell (p := ⟨B + 2, 1, none⟩) hl).trans h.b1⟩
structure TyIn (x : Ex) (w : World) (A vA : Option Addr) (vcap cap nv : Nat) (op ln : Int) (ns : Nat) : Prop where
 find : ∀ W, Below w.heap.size w W → Calls Tryd.prog 32 #[.slice vA nv vcap, .string x.name] W fun e w' => (∃ (v : VarS) (ok : Bool), e = .returned (.tuple #[.agg v.cells.toArray, .bool ok])) ∧ Below W.heap.size W w'
 ty : ∀ y ∈ x.sub, ∀ W, Below w.heap.size w W → ∀ As ks, ExAt W y (ExC y As ks) → RowE W As y.sub ks → Calls Tryd.prog 59 #[.slice vA nv vcap, .agg (ExC y As ks).toArray] W fun e w' => TyR e ∧ Below W.heap.size W w'
 sub : RowE w A x.sub cap
 opv : x.op = op
 nsv : x.sub.length = ns
 lnv : x.line = ln

end Go.Proofs.YtknnhnefbbjcdaaDoor
