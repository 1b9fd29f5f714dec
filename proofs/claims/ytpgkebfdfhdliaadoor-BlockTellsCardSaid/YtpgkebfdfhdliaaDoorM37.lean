/- Merged: Layer 22: a program in a variable of its own. Layer 22: rows of numbers that lie anywhere; equal ones are told equal. -/
import Derived.Test.YtpgkebfdfhdliaaDoorTreeN
import Derived.Test.YtpgkebfdfhdliaaDoorM07
import Derived.Test.YtpgkebfdfhdliaaDoorLayK
import Derived.Test.YtpgkebfdfhdliaaDoorM43
namespace Go.Proofs.YtpgkebfdfhdliaaDoor
open Go.RowKit
set_option linter.unusedVariables false
set_option linter.unusedSimpArgs false

theorem varOk_const (v : VarS) (h1 : I64 v.type) (h2 : I64 v.sect) (h3 : I64 v.lo) (h4 : I64 v.hi) (h5 : I64 v.init) (h6 : I64 v.line) : VarAt v v.cells := ⟨rfl, ⟨h1, h2, h3, h4, h5, h6⟩⟩
theorem rowT_nil (w : World) : RowT w none [] 0 := RowOf.nil _ _ _ _ _ _ (by omega)
def PrgC (w : World) (B : Nat) (nm : ByteArray) (Av : Option Addr) (n kv : Nat) (Ab : Option Addr) (nb kb : Nat) : Prop := B < w.heap.size ∧ w.cell? ⟨B, 0, none⟩ = some (.string nm) ∧ w.cell? ⟨B, 1, none⟩ = some (.slice Av n kv) ∧ w.cell? ⟨B, 2, none⟩ = some (.slice Ab nb kb)
theorem PrgC.below {w w' : World} {B : Nat} {nm : ByteArray} {Av : Option Addr} {n kv : Nat} {Ab : Option Addr} {nb kb : Nat} (h : PrgC w B nm Av n kv Ab nb kb) (hb : Below w.heap.size w w') : PrgC w' B nm Av n kv Ab nb kb :=
 ⟨Nat.lt_of_lt_of_le h.1 hb.size, (hb.cell (p := ⟨B, 0, none⟩) h.1).trans h.2.1, (hb.cell (p := ⟨B, 1, none⟩) h.1).trans h.2.2.1, (hb.cell (p := ⟨B, 2, none⟩) h.1).trans h.2.2.2⟩

end Go.Proofs.YtpgkebfdfhdliaaDoor

namespace Go.Proofs.YtpgkebfdfhdliaaDoor
open Go.RowKit
set_option linter.unusedVariables false
set_option linter.unusedSimpArgs false
attribute [local go_sem] ite_max ite_min vite_max vite_min ext_cell ext_frozen extS_cell extS_frozen

/-- a row of numbers, by its cells -/
def RowN (w : World) (A : Option Addr) (zs : List Int) (cap : Nat) : Prop := zs.length ≤ cap ∧ cap ≤ 9223372036854775807 ∧ ∀ i z, zs[i]? = some z → ∃ b off, A = some ⟨b, off, none⟩ ∧ b < w.heap.size ∧ w.cell? ⟨b, off + i, none⟩ = some (.int .i64 z)
theorem RowN.below {w w' : World} {A : Option Addr} {zs : List Int} {cap : Nat} (h : RowN w A zs cap) (hb : Below w.heap.size w w') : RowN w' A zs cap :=
 ⟨h.1, h.2.1, fun i z hz => by
  obtain ⟨b, off, h1, h2, h3⟩ := h.2.2 i z hz
  exact ⟨b, off, h1, Nat.lt_of_lt_of_le h2 hb.size, (hb.cell (p := ⟨b, _, none⟩) h2).trans h3⟩⟩
theorem rowN_of {w : World} {H : Nat} {T : TypeId} {A : Option Addr} {n c : Nat} {zs : List Int} (h : w.ownsRow H T 1 (.slice A n c) n (intsV .i64 zs)) : RowN w A zs c ∧ n = zs.length := by
 have hl : n = zs.length := by have := h.1; rw [intsV_len] at this; omega
 refine ⟨?_, hl⟩
 rcases h.2 with ⟨h1, h2⟩ | ⟨g, cap, cur, h1, hb, hg, hnc, hcm, hcs, htake⟩
 ·injection h1 with h1 h3 h4
  subst h1 h4
  have : zs = [] := List.eq_nil_of_length_eq_zero (by omega)
  subst this
  exact ⟨Nat.le_refl _, by omega, fun i z hz => by simp at hz⟩
 ·injection h1 with h1 h3 h4
  subst h1 h4
  refine ⟨by omega, by unfold maxLen at hcm; exact hcm, fun i z hz => ⟨g, 0, rfl, (Array.getElem?_eq_some_iff.1 hg).1, ?_⟩⟩
  rw [Nat.zero_add]
  exact owns_cell h rfl (by simp [intsV, hz])

set_option maxRecDepth 100000 in
set_option maxHeartbeats 2000000 in
theorem same16n_any (zs : List Int) (w : World) (A B : Option Addr) (ca cb : Nat) (hA : RowN w A zs ca) (hB : RowN w B zs cb) :
  Calls Tryd.prog 22 #[.slice A zs.length ca, .slice B zs.length cb] w fun e w' => e = .returned (.bool true) ∧ Below w.heap.size w w' := by
 have HA := Lib.hid hA
 have HB := Lib.hid hB
 have hla := hA.1
 have hca := hA.2.1
 have hlb := hB.1
 have hcb := hB.2.1
 obtain ⟨n, hn⟩ : ∃ n, zs.length = n := ⟨_, rfl⟩
 rw [hn] at hla hlb ⊢
 have HN := Lib.hid hn
 clear hA hB hn
 go_enter Tryd.func22, Tryd.ntmps22
 go_wp2_with fail
 go_loopw [5] (fun vi wr => ∃ (i : Nat), i ≤ n ∧ vi = .int .i64 i ∧ Below w.heap.size w wr) (fun vi _ => n - (intOf vi).toNat)
 case atStart => exact ⟨0, by omega, rfl, Below.refl _ _⟩
 case round =>
  obtain ⟨i, hi, rfl, hbr⟩ := hrel
  by_cases hlt : i < n
  ·obtain ⟨z, hz⟩ : ∃ z, zs[i]? = some z := ⟨_, List.getElem?_eq_getElem (by rw [HN.out]; exact hlt)⟩
   obtain ⟨b1, o1, rfl, hb1, c1⟩ := (HA.out.below hbr).2.2 i z hz
   obtain ⟨b2, o2, rfl, hb2, c2⟩ := (HB.out.below hbr).2.2 i z hz
   have hi0 : (0 : Int) ≤ (i : Int) ∧ (i : Int) < (n : Int) := by omega
   clear hz
   go_wp2_with fail
   refine wp_region_ext (by kernel_rfl) (by kernel_rfl) ?_
   repeat (go_big_quiet_step (fail))
   refine wpQuiet_nil ?_
   intro v8 hv8
   replace hv8 := ext_below hv8
   go_wp2
   go_roundw
   case rel => exact ⟨i + 1, by omega, by go_num, hbr.trans (hv8.mono hbr.size)⟩
   case measure => simp [intOf]; omega
  ·obtain rfl : i = n := by omega
   go_wp2
   go_ret
   exact ⟨rfl, hbr⟩

end Go.Proofs.YtpgkebfdfhdliaaDoor
