/- Two rows of the same numbers are the same. -/
import Derived.Test.YtcamegfnhbbaeaaM11
namespace Go.Proofs.Ytcamegfnhbbaeaa
open Go.RowKit
set_option linter.unusedVariables false
set_option linter.unusedSimpArgs false
attribute [local go_sem] ite_max ite_min vite_max vite_min ext_cell ext_frozen

/-- a row of numbers -/
def RowI (w : World) (A : Option Addr) (zs : List Int) (cap : Nat) : Prop := RowOf w 1 8 (fun z c => c = [Value.int .i64 z] ∧ I64 z) A zs cap
theorem RowI.at {w : World} {A : Option Addr} {zs : List Int} {cap : Nat} (h : RowI w A zs cap) {i : Nat} (hi : i < zs.length) : ∃ b off z, A = some ⟨b, off, none⟩ ∧ b < w.heap.size ∧ zs[i]? = some z ∧ w.cell? ⟨b, off + i, none⟩ = some (.int .i64 z) := by
  obtain ⟨b, off, z, cs, hA, hb, hz, ⟨rfl, _⟩, hc⟩ := RowOf.at h hi
  refine ⟨b, off, z, hA, hb, hz, ?_⟩
  have := hc 0 (by omega)
  rwa [Nat.mul_one, Nat.add_zero] at this

set_option maxRecDepth 100000 in
set_option maxHeartbeats 2000000 in
theorem same16_any (zs : List Int) (w : World) (A B : Option Addr) (ca cb : Nat) (hA : RowI w A zs ca) (hB : RowI w B zs cb) :
    Calls Try.prog 60 #[.slice A zs.length ca, .slice B zs.length cb] w fun e w' => e = .returned (.bool true) ∧ Below w.heap.size w w' := by
  have HA := Lib.hid hA
  have HB := Lib.hid hB
  have hla := hA.1
  have hca := hA.2.1
  have hlb := hB.1
  have hcb := hB.2.1
  obtain ⟨n, hn⟩ : ∃ n, zs.length = n := ⟨_, rfl⟩
  rw [hn] at hla hlb ⊢
  have HN := Lib.hid hn
  clear hA hB hn
  go_enter Try.func60, Try.ntmps60
  go_wp2_with fail
  go_loopw [5] (fun vi wr => ∃ (i : Nat), i ≤ n ∧ vi = .int .i64 i ∧ Below w.heap.size w wr) (fun vi _ => n - (intOf vi).toNat)
  case atStart => exact ⟨0, by omega, rfl, Below.refl _ _⟩
  case round =>
    obtain ⟨i, hi, rfl, hbr⟩ := hrel
    by_cases hlt : i < n
    · obtain ⟨b1, o1, z, rfl, hb1, hz1, c1⟩ := RowI.at (RowOf.mono HA.out hbr fun _ _ _ h => h) (i := i) (by rw [HN.out]; exact hlt)
      obtain ⟨b2, o2, y, rfl, hb2, hz2, c2⟩ := RowI.at (RowOf.mono HB.out hbr fun _ _ _ h => h) (i := i) (by rw [HN.out]; exact hlt)
      obtain rfl : z = y := by rw [hz1] at hz2; exact Option.some.inj hz2
      have hi0 : (0 : Int) ≤ (i : Int) ∧ (i : Int) < (n : Int) := by omega
      clear hz1 hz2
      go_wp2_with fail
      refine wp_region_ext (by kernel_rfl) (by kernel_rfl) ?_
      repeat (go_big_quiet_step (fail))
      refine wpQuiet_nil ?_
      intro v8 hv8
      replace hv8 := ext_below hv8
      go_wp2
      go_roundw
      case rel => exact ⟨i + 1, by omega, by go_num, hbr.trans (hv8.mono hbr.size)⟩
      case measure => simp [intOf]; omega
    · obtain rfl : i = n := by omega
      go_wp2
      go_ret
      exact ⟨rfl, hbr⟩

end Go.Proofs.Ytcamegfnhbbaeaa
