/-
  No cell of these rows narrows 'for every input' (looked for: loops, veiled, ifaces, maps, wideKeys, modest, calm, conditions, laid).
  DERIVED. THE GIVEN ROWS OF THIS SEAT. 6 by the template 'for every input the law returns true; each argument reads behind the call as it read before'; 0 by the template 'total and deterministic' (their statements: YthhfnageadckkaaGreatTotals.lean).
  GIVEN WITH THE SEED: the statements are not yours to turn. If you find one false, say at which input.
  Laid BY PROGRAM, IN A SANDBOX (cutbox-rows.mjs): the forced cells as the released guide's own fill.sh prints them over the translation f3329c50484e8fa0… (all of the seat's roots in one cut). By AI agents, Wed Nov 11 2026. No macro, syntax, notation, axiom, sorry.
-/
import Derived.Test.YthhfnageadckkaaGreatChecked
import GoSem.Claim
import GoSem.ClaimJoined
import GoSem.ClaimMapViews
import Derived.JoinedTies
import Derived.KernelRfl
namespace Go.Proofs.YthhfnageadckkaaGreat
/- THE CELL 'sum', in the pinned program and in every row, IS THE sha256 OF THE DUMP (.gsa) THAT YthhfnageadckkaaGreatProg.lean LOADS. Nothing in Lean hashes anything: it is a label: what it is worth is what the hold of that sum in a sandbox is worth. -/
noncomputable def Tryz.pinned : Pinned := { name := "ythhfnageadckkaagreat", sum := "f3329c50484e8fa0b3fba5811d83e4acbeb5647ef20755a8c34a198c296265aa", checked := Tryz.checked }
namespace Rows
def none {H : Type} : Left H := { results := [], args := [] }

/-- 'servitorlaw15.AxisEdges': WHATEVER THE INPUT: true; the input reads as it did. -/
def axisEdgesSpec : ChangeSpec := { name := "axisEdges", fn := fun _ => fun
  | [d1, d2] => { results := [.lit (.bool true)], args := [d1, d2] }
  | _ => none }
def axisEdgesRow : OpenClaim := { program := "ythhfnageadckkaagreat", sum := "f3329c50484e8fa0b3fba5811d83e4acbeb5647ef20755a8c34a198c296265aa", func := "servitor/servitorlaw15.AxisEdges", spec := "axisEdges", unfollowed := true, recurses := true, named := ["math/bits.divideError", "math/bits.overflowError"], apart := false }
def AxisEdgesSaid : Prop := axisEdgesRow.holds Tryz.pinned (OpenSpec.ofChange axisEdgesSpec)

/-- ITS FALSE NEIGHBOUR: 'it returns false'. Refute it at one input. -/
def axisEdgesWrong : ChangeSpec := { name := "axisEdges", fn := fun _ => fun
  | [d1, d2] => { results := [.lit (.bool false)], args := [d1, d2] }
  | _ => none }
def AxisEdgesWrongFalsely : Prop := axisEdgesRow.holds Tryz.pinned (OpenSpec.ofChange axisEdgesWrong)

/-- 'servitorlaw15.AxisErrors': WHATEVER THE INPUT: true; the input reads as it did. -/
def axisErrorsSpec : ChangeSpec := { name := "axisErrors", fn := fun _ => fun
  | [d1, d2, d3] => { results := [.lit (.bool true)], args := [d1, d2, d3] }
  | _ => none }
def axisErrorsRow : OpenClaim := { program := "ythhfnageadckkaagreat", sum := "f3329c50484e8fa0b3fba5811d83e4acbeb5647ef20755a8c34a198c296265aa", func := "servitor/servitorlaw15.AxisErrors", spec := "axisErrors", unfollowed := true, recurses := true, named := ["math/bits.divideError", "math/bits.overflowError"], apart := false }
def AxisErrorsSaid : Prop := axisErrorsRow.holds Tryz.pinned (OpenSpec.ofChange axisErrorsSpec)

/-- ITS FALSE NEIGHBOUR: 'it returns false'. Refute it at one input. -/
def axisErrorsWrong : ChangeSpec := { name := "axisErrors", fn := fun _ => fun
  | [d1, d2, d3] => { results := [.lit (.bool false)], args := [d1, d2, d3] }
  | _ => none }
def AxisErrorsWrongFalsely : Prop := axisErrorsRow.holds Tryz.pinned (OpenSpec.ofChange axisErrorsWrong)

/-- 'servitorlaw15.AxisQuiet': WHATEVER THE INPUT: true; the input reads as it did. -/
def axisQuietSpec : ChangeSpec := { name := "axisQuiet", fn := fun _ => fun
  | [d1, d2, d3] => { results := [.lit (.bool true)], args := [d1, d2, d3] }
  | _ => none }
def axisQuietRow : OpenClaim := { program := "ythhfnageadckkaagreat", sum := "f3329c50484e8fa0b3fba5811d83e4acbeb5647ef20755a8c34a198c296265aa", func := "servitor/servitorlaw15.AxisQuiet", spec := "axisQuiet", unfollowed := true, recurses := true, named := ["math/bits.divideError", "math/bits.overflowError"], apart := false }
def AxisQuietSaid : Prop := axisQuietRow.holds Tryz.pinned (OpenSpec.ofChange axisQuietSpec)

/-- ITS FALSE NEIGHBOUR: 'it returns false'. Refute it at one input. -/
def axisQuietWrong : ChangeSpec := { name := "axisQuiet", fn := fun _ => fun
  | [d1, d2, d3] => { results := [.lit (.bool false)], args := [d1, d2, d3] }
  | _ => none }
def AxisQuietWrongFalsely : Prop := axisQuietRow.holds Tryz.pinned (OpenSpec.ofChange axisQuietWrong)

/-- 'servitorlaw15.AxisMade': WHATEVER THE INPUT: true; the input reads as it did. -/
def axisMadeSpec : ChangeSpec := { name := "axisMade", fn := fun _ => fun
  | [d1, d2, d3, d4, d5, d6] => { results := [.lit (.bool true)], args := [d1, d2, d3, d4, d5, d6] }
  | _ => none }
def axisMadeRow : OpenClaim := { program := "ythhfnageadckkaagreat", sum := "f3329c50484e8fa0b3fba5811d83e4acbeb5647ef20755a8c34a198c296265aa", func := "servitor/servitorlaw15.AxisMade", spec := "axisMade", unfollowed := true, recurses := true, named := ["math/bits.divideError", "math/bits.overflowError"], apart := false }
def AxisMadeSaid : Prop := axisMadeRow.holds Tryz.pinned (OpenSpec.ofChange axisMadeSpec)

/-- ITS FALSE NEIGHBOUR: 'it returns false'. Refute it at one input. -/
def axisMadeWrong : ChangeSpec := { name := "axisMade", fn := fun _ => fun
  | [d1, d2, d3, d4, d5, d6] => { results := [.lit (.bool false)], args := [d1, d2, d3, d4, d5, d6] }
  | _ => none }
def AxisMadeWrongFalsely : Prop := axisMadeRow.holds Tryz.pinned (OpenSpec.ofChange axisMadeWrong)

/-- 'servitorlaw15.AxisSafe': WHATEVER THE INPUT: true; the input reads as it did. -/
def axisSafeSpec : ChangeSpec := { name := "axisSafe", fn := fun _ => fun
  | [d1, d2] => { results := [.lit (.bool true)], args := [d1, d2] }
  | _ => none }
def axisSafeRow : OpenClaim := { program := "ythhfnageadckkaagreat", sum := "f3329c50484e8fa0b3fba5811d83e4acbeb5647ef20755a8c34a198c296265aa", func := "servitor/servitorlaw15.AxisSafe", spec := "axisSafe", unfollowed := true, recurses := true, named := ["math/bits.divideError", "math/bits.overflowError"], apart := false }
def AxisSafeSaid : Prop := axisSafeRow.holds Tryz.pinned (OpenSpec.ofChange axisSafeSpec)

/-- ITS FALSE NEIGHBOUR: 'it returns false'. Refute it at one input. -/
def axisSafeWrong : ChangeSpec := { name := "axisSafe", fn := fun _ => fun
  | [d1, d2] => { results := [.lit (.bool false)], args := [d1, d2] }
  | _ => none }
def AxisSafeWrongFalsely : Prop := axisSafeRow.holds Tryz.pinned (OpenSpec.ofChange axisSafeWrong)

/-- 'servitorlaw15.AxisLands': WHATEVER THE INPUT: true; the input reads as it did. -/
def axisLandsSpec : ChangeSpec := { name := "axisLands", fn := fun _ => fun
  | [d1, d2, d3, d4] => { results := [.lit (.bool true)], args := [d1, d2, d3, d4] }
  | _ => none }
def axisLandsRow : OpenClaim := { program := "ythhfnageadckkaagreat", sum := "f3329c50484e8fa0b3fba5811d83e4acbeb5647ef20755a8c34a198c296265aa", func := "servitor/servitorlaw15.AxisLands", spec := "axisLands", unfollowed := true, recurses := true, named := ["math/bits.divideError", "math/bits.overflowError"], apart := false }
def AxisLandsSaid : Prop := axisLandsRow.holds Tryz.pinned (OpenSpec.ofChange axisLandsSpec)

/-- ITS FALSE NEIGHBOUR: 'it returns false'. Refute it at one input. -/
def axisLandsWrong : ChangeSpec := { name := "axisLands", fn := fun _ => fun
  | [d1, d2, d3, d4] => { results := [.lit (.bool false)], args := [d1, d2, d3, d4] }
  | _ => none }
def AxisLandsWrongFalsely : Prop := axisLandsRow.holds Tryz.pinned (OpenSpec.ofChange axisLandsWrong)

/- THE SECOND FORM. 'bulk': how many values and letters a reading holds, each counted each time it is reached (what is shared counts as often as it is met; a slice's spare places count too). A statement '..UptoSaid' is the law's where the arguments, and the package variables that the reading takes, are together of bulk at most 1048576: NARROWER than '..Said'. Prove '..Said' where nothing that the law and all that it calls make is longer than what came in: it says more and counts as full. Else prove '..UptoSaid'. A law counts once. -/
mutual
def uptoBulk {H : Type} : DataW H → Nat
  | .lit (.string bytes) => bytes.length + 1
  | .lit _ => 1
  | .nil => 1
  | .ptr d => uptoBulk d + 1
  | .slice elems spare => uptoBulkAll elems + uptoBulkAll spare + 1
  | .agg parts => uptoBulkAll parts + 1
  | .iface _ d => uptoBulk d + 1
  | .map entries => uptoBulkEntries entries + 1
  | .held _ => 1
def uptoBulkAll {H : Type} : List (DataW H) → Nat
  | [] => 0
  | d :: r => uptoBulk d + uptoBulkAll r
def uptoBulkEntries {H : Type} : List (Lit × DataW H) → Nat
  | [] => 0
  | x :: r => uptoBulkEntry x + uptoBulkEntries r
def uptoBulkEntry {H : Type} : Lit × DataW H → Nat
  | (.string bytes, d) => bytes.length + uptoBulk d + 1
  | (_, d) => uptoBulk d + 1
 end
def uptoSmall : (H : Type) → List (DataW H) → Bool := fun _ ds => decide (uptoBulkAll ds ≤ 1048576)
def OpenSpec.upto (s : _root_.Go.ChangeSpec) : _root_.Go.OpenSpec := { _root_.Go.OpenSpec.ofChange s with cond := some uptoSmall }

/-- 'servitorlaw15.AxisEdges', WHERE WHAT IT READS IS OF BULK AT MOST 1048576: true; the input reads as it did. -/
def axisEdgesUptoRow : OpenClaim := { program := "ythhfnageadckkaagreat", sum := "f3329c50484e8fa0b3fba5811d83e4acbeb5647ef20755a8c34a198c296265aa", func := "servitor/servitorlaw15.AxisEdges", spec := "axisEdges", unfollowed := true, recurses := true, named := ["math/bits.divideError", "math/bits.overflowError"], apart := false, narrowed := true }
def AxisEdgesUptoSaid : Prop := axisEdgesUptoRow.holds Tryz.pinned (OpenSpec.upto axisEdgesSpec)

/-- 'servitorlaw15.AxisErrors', WHERE WHAT IT READS IS OF BULK AT MOST 1048576: true; the input reads as it did. -/
def axisErrorsUptoRow : OpenClaim := { program := "ythhfnageadckkaagreat", sum := "f3329c50484e8fa0b3fba5811d83e4acbeb5647ef20755a8c34a198c296265aa", func := "servitor/servitorlaw15.AxisErrors", spec := "axisErrors", unfollowed := true, recurses := true, named := ["math/bits.divideError", "math/bits.overflowError"], apart := false, narrowed := true }
def AxisErrorsUptoSaid : Prop := axisErrorsUptoRow.holds Tryz.pinned (OpenSpec.upto axisErrorsSpec)

/-- 'servitorlaw15.AxisQuiet', WHERE WHAT IT READS IS OF BULK AT MOST 1048576: true; the input reads as it did. -/
def axisQuietUptoRow : OpenClaim := { program := "ythhfnageadckkaagreat", sum := "f3329c50484e8fa0b3fba5811d83e4acbeb5647ef20755a8c34a198c296265aa", func := "servitor/servitorlaw15.AxisQuiet", spec := "axisQuiet", unfollowed := true, recurses := true, named := ["math/bits.divideError", "math/bits.overflowError"], apart := false, narrowed := true }
def AxisQuietUptoSaid : Prop := axisQuietUptoRow.holds Tryz.pinned (OpenSpec.upto axisQuietSpec)

/-- 'servitorlaw15.AxisMade', WHERE WHAT IT READS IS OF BULK AT MOST 1048576: true; the input reads as it did. -/
def axisMadeUptoRow : OpenClaim := { program := "ythhfnageadckkaagreat", sum := "f3329c50484e8fa0b3fba5811d83e4acbeb5647ef20755a8c34a198c296265aa", func := "servitor/servitorlaw15.AxisMade", spec := "axisMade", unfollowed := true, recurses := true, named := ["math/bits.divideError", "math/bits.overflowError"], apart := false, narrowed := true }
def AxisMadeUptoSaid : Prop := axisMadeUptoRow.holds Tryz.pinned (OpenSpec.upto axisMadeSpec)

/-- 'servitorlaw15.AxisSafe', WHERE WHAT IT READS IS OF BULK AT MOST 1048576: true; the input reads as it did. -/
def axisSafeUptoRow : OpenClaim := { program := "ythhfnageadckkaagreat", sum := "f3329c50484e8fa0b3fba5811d83e4acbeb5647ef20755a8c34a198c296265aa", func := "servitor/servitorlaw15.AxisSafe", spec := "axisSafe", unfollowed := true, recurses := true, named := ["math/bits.divideError", "math/bits.overflowError"], apart := false, narrowed := true }
def AxisSafeUptoSaid : Prop := axisSafeUptoRow.holds Tryz.pinned (OpenSpec.upto axisSafeSpec)

/-- 'servitorlaw15.AxisLands', WHERE WHAT IT READS IS OF BULK AT MOST 1048576: true; the input reads as it did. -/
def axisLandsUptoRow : OpenClaim := { program := "ythhfnageadckkaagreat", sum := "f3329c50484e8fa0b3fba5811d83e4acbeb5647ef20755a8c34a198c296265aa", func := "servitor/servitorlaw15.AxisLands", spec := "axisLands", unfollowed := true, recurses := true, named := ["math/bits.divideError", "math/bits.overflowError"], apart := false, narrowed := true }
def AxisLandsUptoSaid : Prop := axisLandsUptoRow.holds Tryz.pinned (OpenSpec.upto axisLandsSpec)

end Rows
end Go.Proofs.YthhfnageadckkaaGreat
