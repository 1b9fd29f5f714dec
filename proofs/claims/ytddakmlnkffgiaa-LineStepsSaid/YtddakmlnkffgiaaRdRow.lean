/- Readings of rows of numbers, wherever they stand (in a struct's field, say). -/
import Derived.Test.YtddakmlnkffgiaaReadS
namespace Go.Proofs.Ytddakmlnkffgiaa
open Go.ChangeShapes Go.WideShapes Go.ChangeAt Go.RowKit
set_option linter.unusedVariables false
set_option linter.unusedSimpArgs false

theorem rd_ints {P : Program} {H : Type} {enc : TypeId × Value → H} {w : World} {t e : TypeId} {k : IntKind} {v : Value} (ht : P.underlying t = some (.slice e)) (he : P.underlying e = some (.int k)) (hc : P.cellsOf e = 1)
    (h : Rd enc P w t [v]) : ∃ zs, IntsAt k w v zs := by
  obtain ⟨xs, a, cap, hv, hl, hcap, hg, hm⟩ := rd_slice_at (fun z : Int => [.int k z]) (fun z => (Lit.int k z).wf = true) ht hc (by decide) (fun cs hcs => rd_int he hcs) h
  refine ⟨xs, a, cap, hv, hl, hcap, hg, fun hne => ?_⟩
  obtain ⟨b, off, ha, _, hx⟩ := hm hne
  refine ⟨b, off, ha, fun i hi => ?_⟩
  have := hx i xs[i] (List.getElem?_eq_getElem hi) 0 (by decide)
  rw [List.getElem?_eq_getElem hi]
  simpa using this

theorem cells_smooth : Try.prog.cellsOf 71 = 1 := by kernel_rfl

theorem rd_smooth {H : Type} {enc : TypeId × Value → H} {w : World} {cs : List Value} (h : Rd enc Try.prog w 71 cs) : ∃ s zs, cs = [s] ∧ IntsAt .i64 w s zs := by
  obtain ⟨hl, hf⟩ := rd_struct Try.underlying71 h
  rw [show Try.prog.cellsOf 71 = 1 by kernel_rfl] at hl
  obtain ⟨s, rfl⟩ := list_1 cs hl
  have h0 : Rd enc Try.prog w 69 [s] := by simpa [show Try.prog.cellsOf 69 = 1 by kernel_rfl] using hf 0 _ rfl
  obtain ⟨zs, hz⟩ := rd_ints Try.underlying69 Try.underlying2 (by kernel_rfl) h0
  exact ⟨s, zs, rfl, hz⟩

end Go.Proofs.Ytddakmlnkffgiaa
